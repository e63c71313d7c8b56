/-
  The reference's word for shapes: may an instruction be. A region that draws its order, whose operations read memory and whose calls make memory of their own: one walk, in the order of the text. The class of worlds: those that are as W was below W's size (Off W). The reference's word for shapes: may a function be. The reference's words for shapes: Check, asked, Count, Regs. The reference's words for shapes: Count, Number, Where, Regs. The reference's words for shapes: Where, Regs, Place, Reg. The reference's words for shapes: Regs, Place, Reg. The program's small functions of types; slices.IndexFunc, slices.ContainsFunc at numbers, with whatever predicate. The program's may: which type may be, and how many cells it has.
-/
import Derived.Test.YtcbhmpkginebaaaDoorMg7
import Derived.Deep.DeepCutAuto
import Derived.WalkKit
import Derived.ProofKit
import Derived.OpenShut
import Derived.BigQuiet
import Derived.Below
import Derived.Deep.Draws
import Derived.OwnWalk
import Derived.Deep.QuietTactic
import Derived.Outline
namespace Go.Proofs.YtcbhmpkginebaaaDoor
set_option linter.unusedVariables false
set_option linter.unusedSimpArgs false
open Go.ChangeShapes Go.WideShapes Go.ChangeAt Go.RowKit

/-- The boxes of a program and an instruction. -/
structure Boxes (w0 w : World) (g1 g2 : Nat) (p x : Array Value) : Prop where
  p : Blk w g1 35 p
  x : Blk w g2 24 x
  below : Below w0.heap.size w0 w
theorem Boxes.on {w0 w w' : World} {g1 g2 : Nat} {p x : Array Value} (h : Boxes w0 w g1 g2 p x) (hb : Below w.heap.size w w') : Boxes w0 w' g1 g2 p x := ⟨h.p.beneath hb, h.x.beneath hb, h.below.trans (hb.mono h.below.size)⟩
theorem rhasa_is {op : Nat} {b : Bool} (h : hasT op 0 = b) (w : World) : Calls Tryd.prog 33 #[.int .u8 op] w fun e w' => e = .returned (.bool b) ∧ Below w.heap.size w w' := h ▸ rhasa_any op w
theorem rtwo_is {op : Nat} {b : Bool} (h : hasT op 1 = b) (w : World) : Calls Tryd.prog 34 #[.int .u8 op] w fun e w' => e = .returned (.bool b) ∧ Below w.heap.size w w' := h ▸ rtwo_any op w
theorem rargs_is {op : Nat} {b : Bool} (h : hasT op 3 = b) (w : World) : Calls Tryd.prog 35 #[.int .u8 op] w fun e w' => e = .returned (.bool b) ∧ Below w.heap.size w w' := h ▸ rargs_any op w
theorem ranswers_is {op : Nat} {b : Bool} (h : hasT op 5 = b) (w : World) : Calls Tryd.prog 10 #[.int .u8 op] w fun e w' => e = .returned (.bool b) ∧ Below w.heap.size w w' := h ▸ ranswers_any op w
def zeroB (b0 b1 b3 : Bool) (a b : Int) (n : Nat) : Bool := (b0 || decide (a = 0)) && ((b1 || decide (b = 0)) && (b3 || decide (n = 0)))
def typeB (b5 : Bool) (ty types : Int) : Bool := if b5 then inB ty types else decide (ty = 0)
def fromB (op n : Nat) (from_ : List Int) (blocks : Int) : Bool := if op = 22 then decide (from_.length = n) && (decide (1 ≤ from_.length ∧ from_.length ≤ 16) && allB from_ blocks) else decide (from_.length = 0) && decide (n ≤ 4)
theorem ins_split (x : PIns) (types funs regs blocks : Int) {b0 b1 b3 b5 : Bool} (h0 : hasT x.op 0 = b0) (h1 : hasT x.op 1 = b1) (h3 : hasT x.op 3 = b3) (h5 : hasT x.op 5 = b5) :
    insB x types funs regs blocks = ((decide (1 ≤ x.op ∧ x.op ≤ 22) && (allB (usesL b0 b1 b3 x.a x.b x.args) regs && mayNB x funs)) && (zeroB b0 b1 b3 x.a x.b x.args.length && (typeB b5 x.ty types && fromB x.op x.args.length x.from_ blocks))) := by
  unfold insB mayNB zeroB typeB fromB
  rw [h0, h1, h3, h5]
  have hu : allB (usesL b0 b1 b3 x.a x.b x.args) regs = ((!b0 || inB x.a regs) && ((!b1 || inB x.b regs) && (!b3 || allB x.args regs))) := by
    unfold usesL allB
    rw [List.all_append, List.all_append, Bool.and_assoc]
    cases b0 <;> cases b1 <;> cases b3 <;> simp
  rw [hu]
  have ha : b3 = false → x.args.length = 0 → allB x.args regs = true := fun _ e => by rw [List.eq_nil_of_length_eq_zero e]; rfl
  generalize (if x.op = 22 then decide (x.from_.length = x.args.length) && (decide (1 ≤ x.from_.length ∧ x.from_.length ≤ 16) && allB x.from_ blocks) else decide (x.from_.length = 0) && decide (x.args.length ≤ 4)) = F
  generalize (if b5 = true then inB x.ty types else decide (x.ty = 0)) = T
  generalize numB x funs = N
  generalize decide (1 ≤ x.op ∧ x.op ≤ 22) = O
  generalize inB x.a regs = A
  generalize inB x.b regs = B
  generalize allB x.args regs = G at *
  generalize (hasT x.op 2 || decide (x.n = 0)) = M
  generalize decide (x.a = 0) = Z
  generalize decide (x.b = 0) = Y
  cases b3 with
  | true => cases O <;> cases A <;> cases B <;> cases G <;> cases M <;> cases N <;> cases T <;> cases F <;> simp [Bool.and_assoc]
  | false =>
    by_cases e : x.args.length = 0
    · rw [ha rfl e, decide_eq_true e]
      cases O <;> cases A <;> cases B <;> cases M <;> cases N <;> cases T <;> cases F <;> simp [Bool.and_assoc]
    · rw [decide_eq_false e]
      simp
set_option maxRecDepth 100000 in
set_option maxHeartbeats 1600000 in
theorem rmayIns_any {w : World} {p : PrR} (h : ProgIn w p) (x : InR) (hx : x.Ok w) (hl : x.args.length ≤ 1000) (regs many : Int) :
    Calls Tryd.prog 81 #[p.val, x.val, .int .i64 regs, .int .i64 many] w fun e w' => e = .returned (.bool (insB x.data p.types.length p.funs.length regs many)) ∧ Below w.heap.size w w' := by
  have hpl := h.types.len
  have hop := hx.op
  have HX := Lib.hid hx
  have HP := Lib.hid h
  have HMN := Lib.hid (fun W (hb : Below w.heap.size w W) => rmayN_any (h.on hb) x)
  obtain ⟨r, hr⟩ : ∃ b, insB x.data p.types.length p.funs.length regs many = b := ⟨_, rfl⟩
  obtain ⟨mn, hmn⟩ : ∃ b, mayNB x.data p.funs.length = b := ⟨_, rfl⟩
  rw [hr]
  rw [hmn] at HMN
  unfold PrR.val InR.val at *
  obtain ⟨ta, tc, types, fa, fc, funs⟩ := p
  obtain ⟨op, ty, a, bb, n, aa, ac, args, xa, xc, from_⟩ := x
  dsimp only at *
  obtain ⟨b0, h0⟩ : ∃ b, hasT op 0 = b := ⟨_, rfl⟩
  obtain ⟨b1, h1⟩ : ∃ b, hasT op 1 = b := ⟨_, rfl⟩
  obtain ⟨b3, h3⟩ : ∃ b, hasT op 3 = b := ⟨_, rfl⟩
  obtain ⟨b5, h5⟩ : ∃ b, hasT op 5 = b := ⟨_, rfl⟩
  obtain ⟨cu, hcu⟩ : ∃ b, allB (usesL b0 b1 b3 a bb args) regs = b := ⟨_, rfl⟩
  have hr2 : r = ((decide (1 ≤ op ∧ op ≤ 22) && (cu && mn)) && (zeroB b0 b1 b3 a bb args.length && (typeB b5 ty types.length && fromB op args.length from_ many))) := by
    rw [← hr, ← hmn, ← hcu]
    exact ins_split (⟨op, ty, a, bb, n, args, from_⟩ : PIns) types.length funs.length regs many h0 h1 h3 h5
  obtain ⟨s1, hs1⟩ : ∃ b, (decide (1 ≤ op ∧ op ≤ 22) && (cu && mn)) = b := ⟨_, rfl⟩
  rw [hs1] at hr2
  have HR := Lib.hid hr2
  have HS1 := Lib.hid hs1
  clear hs1 hr2
  have HN := Lib.hid hmn
  have HCU := Lib.hid hcu
  have H0 := Lib.hid h0
  have H1 := Lib.hid h1
  have H3 := Lib.hid h3
  have H5 := Lib.hid h5
  have HAL := Lib.hid hl
  clear hx h hr hmn hcu h0 h1 h3 h5 hl
  have hopz : (op : Int) ≤ 255 := by omega
  have HW1 := Lib.hid (show Boxes w ((w.alloc (.cells #[.slice ta types.length tc, .slice fa funs.length fc] 35)).alloc (.cells #[.int .u8 op, .int .i64 ty, .int .i64 a, .int .i64 bb, .int .i64 n, .slice aa args.length ac, .slice xa from_.length xc] 24)) w.heap.size (w.heap.size + 1) #[.slice ta types.length tc, .slice fa funs.length fc] #[.int .u8 op, .int .i64 ty, .int .i64 a, .int .i64 bb, .int .i64 n, .slice aa args.length ac, .slice xa from_.length xc] from
    ⟨(Blk.new w _ _).beneath ((Below.refl _ _).alloc (Nat.le_refl _) _), heap_at _ _ _ (World.size_alloc _ _), ((Below.refl _ _).alloc (Nat.le_refl _) _).alloc (by rw [World.size_alloc]; omega) _⟩)
  go_enter Tryd.func81, Tryd.ntmps81
  go_upto_region 1 with fail
  go_cut [29] (fun c wx => c = .bool (!s1) ∧ Hid (Boxes w wx w.heap.size (w.heap.size + 1) #[.slice ta types.length tc, .slice fa funs.length fc] #[.int .u8 op, .int .i64 ty, .int .i64 a, .int .i64 bb, .int .i64 n, .slice aa args.length ac, .slice xa from_.length xc]))
  case first =>
    by_cases o1 : op < 1
    · have o1z : (op : Int) < 1 := by omega
      have HQ : Hid (s1 = false) := Lib.hid (by rw [← HS1.out]; simp; omega)
      clear o1
      go_wp2_with fail
      go_meet
      exact ⟨by rw [HQ.out]; rfl, HW1⟩
    have o1z : ¬ (op : Int) < 1 := by omega
    by_cases o2 : 22 < op
    · have o2z : (22 : Int) < op := by omega
      have HQ : Hid (s1 = false) := Lib.hid (by rw [← HS1.out]; simp; omega)
      clear o1 o2
      go_wp2_with fail
      go_meet
      exact ⟨by rw [HQ.out]; rfl, HW1⟩
    have o2z : ¬ (22 : Int) < op := by omega
    have HQ : Hid (s1 = (cu && mn)) := Lib.hid (by rw [← HS1.out, decide_eq_true (show 1 ≤ op ∧ op ≤ 22 by omega)]; rfl)
    clear o1 o2
    go_wp2_with fail
    refine (ruses_any H0.out H1.out H3.out ty a bb n HX.out.ahdr (HX.out.args.up HW1.out.below) HAL.out xa from_.length xc).mono ?_
    rintro e w2 ⟨v2, rfl, hown2, hb2⟩
    obtain ⟨A2, c2, rfl, _⟩ := hown2.form
    obtain ⟨hh2, hi2⟩ := own_hdr hown2
    have HI2 := Lib.hid (And.intro hh2 (hi2.more (Nat.zero_le _) (Nat.le_refl _)))
    have HW2 := Lib.hid (HW1.out.on hb2)
    clear hown2 hb2 hh2 hi2
    have x0 := HW2.out.x.cells 0; have x1 := HW2.out.x.cells 1; have x2 := HW2.out.x.cells 2; have x3 := HW2.out.x.cells 3; have x4 := HW2.out.x.cells 4; have x5 := HW2.out.x.cells 5; have x6 := HW2.out.x.cells 6; have p0 := HW2.out.p.cells 0; have p1 := HW2.out.p.cells 1
    cases cu with
    | false =>
      go_wp2_with fail
      refine (rbelow_is HI2.out.1 HI2.out.2 regs HCU.out).mono ?_
      rintro e w3 ⟨rfl, hb3⟩
      have HW3 := Lib.hid (HW2.out.on hb3)
      clear hb3
      go_wp2_with fail
      go_meet
      exact ⟨by rw [HQ.out]; rfl, HW3⟩
    | true =>
      go_wp2_with fail
      refine (rbelow_is HI2.out.1 HI2.out.2 regs HCU.out).mono ?_
      rintro e w3 ⟨rfl, hb3⟩
      have HW3 := Lib.hid (HW2.out.on hb3)
      clear hb3 x0 x1 x2 x3 x4 x5 x6 p0 p1
      have x0 := HW3.out.x.cells 0; have x1 := HW3.out.x.cells 1; have x2 := HW3.out.x.cells 2; have x3 := HW3.out.x.cells 3; have x4 := HW3.out.x.cells 4; have x5 := HW3.out.x.cells 5; have x6 := HW3.out.x.cells 6; have p0 := HW3.out.p.cells 0; have p1 := HW3.out.p.cells 1
      go_wp2_with fail
      refine (HMN.out _ HW3.out.below).mono ?_
      rintro e w4 ⟨rfl, hb4⟩
      have HW4 := Lib.hid (HW3.out.on hb4)
      clear hb4
      go_wp2_with fail
      go_meet
      exact ⟨by rw [HQ.out, Bool.true_and], HW4⟩
  case rest =>
    obtain ⟨rfl, HW2⟩ := hcut
    cases s1 with
    | false =>
      have HZ : Hid (r = false) := Lib.hid (by rw [HR.out]; rfl)
      go_wp2_with fail
      go_ret
      exact ⟨ret_bool HZ.out.symm, HW2.out.below⟩
    | true =>
      go_upto_region 3 with fail
      obtain ⟨q, hq⟩ : ∃ q, zeroB b0 b1 b3 a bb args.length = q := ⟨_, rfl⟩
      rw [hq] at HR
      unfold zeroB at hq
      have HQ := Lib.hid hq
      clear hq
      go_cut [61] (fun c wx => c = .bool (!q) ∧ Hid (Boxes w wx w.heap.size (w.heap.size + 1) #[.slice ta types.length tc, .slice fa funs.length fc] #[.int .u8 op, .int .i64 ty, .int .i64 a, .int .i64 bb, .int .i64 n, .slice aa args.length ac, .slice xa from_.length xc]))
      case first =>
        have x0 := HW2.out.x.cells 0; have x1 := HW2.out.x.cells 1; have x2 := HW2.out.x.cells 2; have x3 := HW2.out.x.cells 3; have x4 := HW2.out.x.cells 4; have x5 := HW2.out.x.cells 5; have x6 := HW2.out.x.cells 6; have p0 := HW2.out.p.cells 0; have p1 := HW2.out.p.cells 1
        go_wp2_with fail
        refine (rhasa_is H0.out _).mono ?_
        rintro e w3 ⟨rfl, hb3⟩
        have HW3 := Lib.hid (HW2.out.on hb3)
        clear hb3 x0 x1 x2 x3 x4 x5 x6 p0 p1
        have x0 := HW3.out.x.cells 0; have x1 := HW3.out.x.cells 1; have x2 := HW3.out.x.cells 2; have x3 := HW3.out.x.cells 3; have x4 := HW3.out.x.cells 4; have x5 := HW3.out.x.cells 5; have x6 := HW3.out.x.cells 6; have p0 := HW3.out.p.cells 0; have p1 := HW3.out.p.cells 1
        cases b0 with
        | true =>
          go_wp2_with fail
          refine (rtwo_is H1.out _).mono ?_
          rintro e w4 ⟨rfl, hb4⟩
          have HW4 := Lib.hid (HW3.out.on hb4)
          clear hb4 x0 x1 x2 x3 x4 x5 x6 p0 p1
          have x0 := HW4.out.x.cells 0; have x1 := HW4.out.x.cells 1; have x2 := HW4.out.x.cells 2; have x3 := HW4.out.x.cells 3; have x4 := HW4.out.x.cells 4; have x5 := HW4.out.x.cells 5; have x6 := HW4.out.x.cells 6; have p0 := HW4.out.p.cells 0; have p1 := HW4.out.p.cells 1
          cases b1 with
          | true =>
            go_wp2_with fail
            refine (rargs_is H3.out _).mono ?_
            rintro e w5 ⟨rfl, hb5⟩
            have HW5 := Lib.hid (HW4.out.on hb5)
            clear hb5 x0 x1 x2 x3 x4 x5 x6 p0 p1
            have x0 := HW5.out.x.cells 0; have x1 := HW5.out.x.cells 1; have x2 := HW5.out.x.cells 2; have x3 := HW5.out.x.cells 3; have x4 := HW5.out.x.cells 4; have x5 := HW5.out.x.cells 5; have x6 := HW5.out.x.cells 6; have p0 := HW5.out.p.cells 0; have p1 := HW5.out.p.cells 1
            cases b3 with
            | true =>
              have hq : q = true := by rw [← HQ.out]; simp
              subst hq
              go_wp2_with fail
              go_meet
              exact ⟨rfl, HW5⟩
            | false =>
              by_cases z : args.length = 0
              · have hq : q = true := by rw [← HQ.out]; simp [z]
                have ez : (args.length : Int) = 0 := by omega
                clear z
                subst hq
                go_wp2_with fail
                go_meet
                exact ⟨rfl, HW5⟩
              · have hq : q = false := by rw [← HQ.out]; simp [z]
                have ez : 0 < (args.length : Int) := by omega
                clear z
                subst hq
                go_wp2_with fail
                go_meet
                exact ⟨congrArg Value.bool (decide_eq_true (by omega)), HW5⟩
          | false =>
            by_cases z : bb = 0
            · obtain rfl := z
              go_wp2_with fail
              refine (rargs_is H3.out _).mono ?_
              rintro e w5 ⟨rfl, hb5⟩
              have HW5 := Lib.hid (HW4.out.on hb5)
              clear hb5 x0 x1 x2 x3 x4 x5 x6 p0 p1
              have x0 := HW5.out.x.cells 0; have x1 := HW5.out.x.cells 1; have x2 := HW5.out.x.cells 2; have x3 := HW5.out.x.cells 3; have x4 := HW5.out.x.cells 4; have x5 := HW5.out.x.cells 5; have x6 := HW5.out.x.cells 6; have p0 := HW5.out.p.cells 0; have p1 := HW5.out.p.cells 1
              cases b3 with
              | true =>
                have hq : q = true := by rw [← HQ.out]; simp
                subst hq
                go_wp2_with fail
                go_meet
                exact ⟨rfl, HW5⟩
              | false =>
                by_cases z : args.length = 0
                · have hq : q = true := by rw [← HQ.out]; simp [z]
                  have ez : (args.length : Int) = 0 := by omega
                  clear z
                  subst hq
                  go_wp2_with fail
                  go_meet
                  exact ⟨rfl, HW5⟩
                · have hq : q = false := by rw [← HQ.out]; simp [z]
                  have ez : 0 < (args.length : Int) := by omega
                  clear z
                  subst hq
                  go_wp2_with fail
                  go_meet
                  exact ⟨congrArg Value.bool (decide_eq_true (by omega)), HW5⟩
            · have ez : (bb != 0) = true := bne_iff_ne.2 z
              have hq : q = false := by rw [← HQ.out]; simp [z]
              clear z
              subst hq
              go_wp2_with fail
              go_meet
              exact ⟨rfl, HW4⟩
        | false =>
          by_cases z : a = 0
          · obtain rfl := z
            go_wp2_with fail
            refine (rtwo_is H1.out _).mono ?_
            rintro e w4 ⟨rfl, hb4⟩
            have HW4 := Lib.hid (HW3.out.on hb4)
            clear hb4 x0 x1 x2 x3 x4 x5 x6 p0 p1
            have x0 := HW4.out.x.cells 0; have x1 := HW4.out.x.cells 1; have x2 := HW4.out.x.cells 2; have x3 := HW4.out.x.cells 3; have x4 := HW4.out.x.cells 4; have x5 := HW4.out.x.cells 5; have x6 := HW4.out.x.cells 6; have p0 := HW4.out.p.cells 0; have p1 := HW4.out.p.cells 1
            cases b1 with
            | true =>
              go_wp2_with fail
              refine (rargs_is H3.out _).mono ?_
              rintro e w5 ⟨rfl, hb5⟩
              have HW5 := Lib.hid (HW4.out.on hb5)
              clear hb5 x0 x1 x2 x3 x4 x5 x6 p0 p1
              have x0 := HW5.out.x.cells 0; have x1 := HW5.out.x.cells 1; have x2 := HW5.out.x.cells 2; have x3 := HW5.out.x.cells 3; have x4 := HW5.out.x.cells 4; have x5 := HW5.out.x.cells 5; have x6 := HW5.out.x.cells 6; have p0 := HW5.out.p.cells 0; have p1 := HW5.out.p.cells 1
              cases b3 with
              | true =>
                have hq : q = true := by rw [← HQ.out]; simp
                subst hq
                go_wp2_with fail
                go_meet
                exact ⟨rfl, HW5⟩
              | false =>
                by_cases z : args.length = 0
                · have hq : q = true := by rw [← HQ.out]; simp [z]
                  have ez : (args.length : Int) = 0 := by omega
                  clear z
                  subst hq
                  go_wp2_with fail
                  go_meet
                  exact ⟨rfl, HW5⟩
                · have hq : q = false := by rw [← HQ.out]; simp [z]
                  have ez : 0 < (args.length : Int) := by omega
                  clear z
                  subst hq
                  go_wp2_with fail
                  go_meet
                  exact ⟨congrArg Value.bool (decide_eq_true (by omega)), HW5⟩
            | false =>
              by_cases z : bb = 0
              · obtain rfl := z
                go_wp2_with fail
                refine (rargs_is H3.out _).mono ?_
                rintro e w5 ⟨rfl, hb5⟩
                have HW5 := Lib.hid (HW4.out.on hb5)
                clear hb5 x0 x1 x2 x3 x4 x5 x6 p0 p1
                have x0 := HW5.out.x.cells 0; have x1 := HW5.out.x.cells 1; have x2 := HW5.out.x.cells 2; have x3 := HW5.out.x.cells 3; have x4 := HW5.out.x.cells 4; have x5 := HW5.out.x.cells 5; have x6 := HW5.out.x.cells 6; have p0 := HW5.out.p.cells 0; have p1 := HW5.out.p.cells 1
                cases b3 with
                | true =>
                  have hq : q = true := by rw [← HQ.out]; simp
                  subst hq
                  go_wp2_with fail
                  go_meet
                  exact ⟨rfl, HW5⟩
                | false =>
                  by_cases z : args.length = 0
                  · have hq : q = true := by rw [← HQ.out]; simp [z]
                    have ez : (args.length : Int) = 0 := by omega
                    clear z
                    subst hq
                    go_wp2_with fail
                    go_meet
                    exact ⟨rfl, HW5⟩
                  · have hq : q = false := by rw [← HQ.out]; simp [z]
                    have ez : 0 < (args.length : Int) := by omega
                    clear z
                    subst hq
                    go_wp2_with fail
                    go_meet
                    exact ⟨congrArg Value.bool (decide_eq_true (by omega)), HW5⟩
              · have ez : (bb != 0) = true := bne_iff_ne.2 z
                have hq : q = false := by rw [← HQ.out]; simp [z]
                clear z
                subst hq
                go_wp2_with fail
                go_meet
                exact ⟨rfl, HW4⟩
          · have ez : (a != 0) = true := bne_iff_ne.2 z
            have hq : q = false := by rw [← HQ.out]; simp [z]
            clear z
            subst hq
            go_wp2_with fail
            go_meet
            exact ⟨rfl, HW3⟩
      case rest =>
        clear HQ HW2
        obtain ⟨rfl, HW2⟩ := hcut
        cases q with
        | false =>
          have HZ : Hid (r = false) := Lib.hid (by rw [HR.out]; rfl)
          go_wp2_with fail
          go_ret
          exact ⟨ret_bool HZ.out.symm, HW2.out.below⟩
        | true =>
          go_upto_region 5 with fail
          obtain ⟨q, hq⟩ : ∃ q, typeB b5 ty types.length = q := ⟨_, rfl⟩
          rw [hq] at HR
          unfold typeB at hq
          have HQ := Lib.hid hq
          clear hq
          go_cut [88] (fun c wx => c = .bool (!q) ∧ Hid (Boxes w wx w.heap.size (w.heap.size + 1) #[.slice ta types.length tc, .slice fa funs.length fc] #[.int .u8 op, .int .i64 ty, .int .i64 a, .int .i64 bb, .int .i64 n, .slice aa args.length ac, .slice xa from_.length xc]))
          case first =>
            have x0 := HW2.out.x.cells 0; have x1 := HW2.out.x.cells 1; have x2 := HW2.out.x.cells 2; have x3 := HW2.out.x.cells 3; have x4 := HW2.out.x.cells 4; have x5 := HW2.out.x.cells 5; have x6 := HW2.out.x.cells 6; have p0 := HW2.out.p.cells 0; have p1 := HW2.out.p.cells 1
            go_wp2_with fail
            refine (ranswers_is H5.out _).mono ?_
            rintro e w3 ⟨rfl, hb3⟩
            have HW3 := Lib.hid (HW2.out.on hb3)
            clear hb3 x0 x1 x2 x3 x4 x5 x6 p0 p1
            have x0 := HW3.out.x.cells 0; have x1 := HW3.out.x.cells 1; have x2 := HW3.out.x.cells 2; have x3 := HW3.out.x.cells 3; have x4 := HW3.out.x.cells 4; have x5 := HW3.out.x.cells 5; have x6 := HW3.out.x.cells 6; have p0 := HW3.out.p.cells 0; have p1 := HW3.out.p.cells 1
            cases b5 with
            | true =>
              by_cases t0 : ty < 0
              ·
                have hq : q = false := by rw [← HQ.out]; exact inB_not.2 (by omega)
                subst hq
                go_wp2_with fail
                go_meet
                exact ⟨by first | rfl | exact congrArg Value.bool (show _ = false by rw [Bool.or_eq_false_iff, decide_eq_false_iff_not, decide_eq_false_iff_not]; exact ⟨by omega, by omega⟩), HW3⟩
              by_cases t1 : ty < types.length
              ·
                have hq : q = true := by rw [← HQ.out]; exact inB_iff.2 (by omega)
                subst hq
                go_wp2_with fail
                refine (ranswers_is H5.out _).mono ?_
                rintro e w4 ⟨rfl, hb4⟩
                have HW4 := Lib.hid (HW3.out.on hb4)
                clear hb4 x0 x1 x2 x3 x4 x5 x6 p0 p1
                have x0 := HW4.out.x.cells 0; have x1 := HW4.out.x.cells 1; have x2 := HW4.out.x.cells 2; have x3 := HW4.out.x.cells 3; have x4 := HW4.out.x.cells 4; have x5 := HW4.out.x.cells 5; have x6 := HW4.out.x.cells 6; have p0 := HW4.out.p.cells 0; have p1 := HW4.out.p.cells 1
                go_wp2_with fail
                go_meet
                exact ⟨by first | rfl | exact congrArg Value.bool (show _ = false by rw [Bool.or_eq_false_iff, decide_eq_false_iff_not, decide_eq_false_iff_not]; exact ⟨by omega, by omega⟩), HW4⟩
              ·
                have hq : q = false := by rw [← HQ.out]; exact inB_not.2 (by omega)
                subst hq
                go_wp2_with fail
                go_meet
                exact ⟨by first | rfl | exact congrArg Value.bool (show _ = false by rw [Bool.or_eq_false_iff, decide_eq_false_iff_not, decide_eq_false_iff_not]; exact ⟨by omega, by omega⟩), HW3⟩
            | false =>
              by_cases t0 : ty = 0
              · obtain rfl := t0
                have hq : q = true := by rw [← HQ.out]; rfl
                subst hq
                go_wp2_with fail
                refine (ranswers_is H5.out _).mono ?_
                rintro e w4 ⟨rfl, hb4⟩
                have HW4 := Lib.hid (HW3.out.on hb4)
                clear hb4 x0 x1 x2 x3 x4 x5 x6 p0 p1
                have x0 := HW4.out.x.cells 0; have x1 := HW4.out.x.cells 1; have x2 := HW4.out.x.cells 2; have x3 := HW4.out.x.cells 3; have x4 := HW4.out.x.cells 4; have x5 := HW4.out.x.cells 5; have x6 := HW4.out.x.cells 6; have p0 := HW4.out.p.cells 0; have p1 := HW4.out.p.cells 1
                go_wp2_with fail
                go_meet
                exact ⟨by first | rfl | exact congrArg Value.bool (show _ = false by rw [Bool.or_eq_false_iff, decide_eq_false_iff_not, decide_eq_false_iff_not]; exact ⟨by omega, by omega⟩), HW4⟩
              · have ez : (ty != 0) = true := bne_iff_ne.2 t0
                have hq : q = false := by rw [← HQ.out]; simp [t0]
                clear t0
                subst hq
                go_wp2_with fail
                refine (ranswers_is H5.out _).mono ?_
                rintro e w4 ⟨rfl, hb4⟩
                have HW4 := Lib.hid (HW3.out.on hb4)
                clear hb4 x0 x1 x2 x3 x4 x5 x6 p0 p1
                have x0 := HW4.out.x.cells 0; have x1 := HW4.out.x.cells 1; have x2 := HW4.out.x.cells 2; have x3 := HW4.out.x.cells 3; have x4 := HW4.out.x.cells 4; have x5 := HW4.out.x.cells 5; have x6 := HW4.out.x.cells 6; have p0 := HW4.out.p.cells 0; have p1 := HW4.out.p.cells 1
                go_wp2_with fail
                go_meet
                exact ⟨rfl, HW4⟩
          case rest =>
            clear HQ HW2
            obtain ⟨rfl, HW2⟩ := hcut
            cases q with
            | false =>
              have HZ : Hid (r = false) := Lib.hid (by rw [HR.out]; rfl)
              go_wp2_with fail
              go_ret
              exact ⟨ret_bool HZ.out.symm, HW2.out.below⟩
            | true =>
              have x0 := HW2.out.x.cells 0; have x1 := HW2.out.x.cells 1; have x2 := HW2.out.x.cells 2; have x3 := HW2.out.x.cells 3; have x4 := HW2.out.x.cells 4; have x5 := HW2.out.x.cells 5; have x6 := HW2.out.x.cells 6; have p0 := HW2.out.p.cells 0; have p1 := HW2.out.p.cells 1
              have HR2 : Hid (r = fromB op args.length from_ many) := Lib.hid (by rw [HR.out]; rfl)
              clear HR
              by_cases e22 : op = 22
              · have eo : ((op : Int) == 22) = true := op_is e22
                have HR3 : Hid (r = (decide (from_.length = args.length) && (decide (1 ≤ from_.length ∧ from_.length ≤ 16) && allB from_ many))) := Lib.hid (by rw [HR2.out]; exact if_pos e22)
                clear e22
                by_cases f0 : from_.length = args.length
                · have f0z : (from_.length : Int) = args.length := by omega
                  by_cases f1 : 1 ≤ from_.length
                  · have f1z : 1 ≤ (from_.length : Int) := by omega
                    by_cases f2 : from_.length ≤ 16
                    · have f2z : (from_.length : Int) ≤ 16 := by omega
                      have HZ : Hid (allB from_ many = r) := Lib.hid (by rw [HR3.out, decide_eq_true f0, decide_eq_true ⟨f1, f2⟩]; rfl)
                      clear f0 f1 f2
                      go_wp2_with fail
                      refine (rbelow_is HX.out.fhdr (HX.out.from_.up HW2.out.below) many HZ.out).mono ?_
                      rintro e w3 ⟨rfl, hb3⟩
                      have HW3 := Lib.hid (HW2.out.on hb3)
                      clear hb3
                      go_wp2_with fail
                      go_ret
                      exact ⟨rfl, HW3.out.below⟩
                    ·
                      have HZ : Hid (r = false) := Lib.hid (by rw [HR3.out, decide_eq_false (show ¬ (1 ≤ from_.length ∧ from_.length ≤ 16) by omega)]; simp)
                      go_wp2_with fail
                      go_ret
                      exact ⟨ret_bool HZ.out.symm, HW2.out.below⟩
                  ·
                    have HZ : Hid (r = false) := Lib.hid (by rw [HR3.out, decide_eq_false (show ¬ (1 ≤ from_.length ∧ from_.length ≤ 16) by omega)]; simp)
                    go_wp2_with fail
                    go_ret
                    exact ⟨ret_bool HZ.out.symm, HW2.out.below⟩
                ·
                  have f0z : ((from_.length : Int) == args.length) = false := op_no f0
                  have HZ : Hid (r = false) := Lib.hid (by rw [HR3.out, decide_eq_false f0]; simp)
                  clear f0
                  go_wp2_with fail
                  go_ret
                  exact ⟨ret_bool HZ.out.symm, HW2.out.below⟩
              · have eo : ((op : Int) == 22) = false := op_no e22
                have HR3 : Hid (r = (decide (from_.length = 0) && decide (args.length ≤ 4))) := Lib.hid (by rw [HR2.out]; exact if_neg e22)
                clear e22
                by_cases f0 : from_.length = 0
                · have f0z : (from_.length : Int) = 0 := by omega
                  by_cases f1 : args.length ≤ 4
                  ·
                    have HZ : Hid (r = true) := Lib.hid (by rw [HR3.out, decide_eq_true f0, decide_eq_true f1]; rfl)
                    go_wp2_with fail
                    go_ret
                    exact ⟨ret_bool (by rw [HZ.out]; exact decide_eq_true (by omega)), HW2.out.below⟩
                  ·
                    have HZ : Hid (r = false) := Lib.hid (by rw [HR3.out, decide_eq_false f1]; simp)
                    go_wp2_with fail
                    go_ret
                    exact ⟨ret_bool (by rw [HZ.out]; exact decide_eq_false (by omega)), HW2.out.below⟩
                ·
                  have f0z : ((from_.length : Int) == 0) = false := op_no (m := 0) f0
                  have HZ : Hid (r = false) := Lib.hid (by rw [HR3.out, decide_eq_false f0]; simp)
                  clear f0
                  go_wp2_with fail
                  go_ret
                  exact ⟨ret_bool HZ.out.symm, HW2.out.below⟩
end Go.Proofs.YtcbhmpkginebaaaDoor
namespace Go.Proofs.YtcbhmpkginebaaaDoor
set_option linter.unusedVariables false
set_option linter.unusedSimpArgs false
open Go.RowKit

/-- The worlds that are as W was, below W's size. -/
structure Off (W : World) where
  val : World
  below : Below W.heap.size W val

instance (W : World) : Nonempty (Off W) := ⟨⟨W, Below.refl _ _⟩⟩
theorem Off.size {W : World} (n : Off W) : W.heap.size ≤ n.val.heap.size := n.below.size
theorem Off.at {W : World} {a : Addr} {v : Value} (h : W.cell? a = some v) (n : Off W) : n.val.cell? a = some v :=
  (n.below.cell (World.block_lt_of_cell? W a h)).trans h

theorem wp_region_off {P : Program} {id : Nat} {Q : Exit → Act → World → Prop} {a : Act} {w : World} {l : List Oper} (hm : P.follows .mixedOrders = true) (hB : Region.lexB .any l.toArray = true)
    (h : ∀ W : World, w = W → wpQuiet P l.toArray (fun w' => ∃ n : Off W, w' = n.val) (fun a' => ∀ w', (∃ n : Off W, w' = n.val) → Q .normal a' w') l a) : (Code.region id l.toArray true).wp P Q a w :=
  wp_region_quiet (C := fun w' => ∃ n : Off w, w' = n.val) hm hB ⟨⟨_, (Below.refl _ _).drew⟩, rfl⟩ (by simpa using h w rfl)

/-- A callee's contract, met in a world of the class. -/
theorem Calls.off {P : Program} {f : FuncId} {args : Array Value} {W : World} {n : Off W} {v : Value}
    (h : Calls P f args n.val fun e w' => e = .returned v ∧ Below n.val.heap.size n.val w') : Calls P f args n.val fun e w'' => e = .returned v ∧ ∃ m : Off W, w'' = m.val :=
  h.mono fun _ w' ⟨he, hb⟩ => ⟨he, ⟨w', n.below.trans (hb.mono n.below.size)⟩, rfl⟩
theorem Calls.off_same {P : Program} {f : FuncId} {args : Array Value} {W : World} {n : Off W} {v : Value}
    (h : Calls P f args n.val fun e w' => e = .returned v ∧ n.val = w') : Calls P f args n.val fun e w'' => e = .returned v ∧ ∃ m : Off W, w'' = m.val :=
  h.mono fun _ w' ⟨he, hb⟩ => ⟨he, n, hb.symm⟩

end Go.Proofs.YtcbhmpkginebaaaDoor
namespace Go.Proofs.YtcbhmpkginebaaaDoor
set_option linter.unusedVariables false
set_option linter.unusedSimpArgs false
open Go.ChangeShapes Go.WideShapes Go.ChangeAt Go.RowKit

def insOk (tl fl : Nat) (regs : Int) (bl : Nat) (x : InR) : Bool := insB x.data tl fl regs bl
def blkOk (tl fl : Nat) (regs : Int) (bl : Nat) (b : BlR) : Bool := b.ins.all (insOk tl fl regs bl) && endB ⟨b.kind, b.a, b.to, b.els⟩ regs bl
/-- What the statements go through of a function. -/
structure FuLim (f : FuR) : Prop where
  blocks : f.blocks.length ≤ 1000
  ins : ∀ b ∈ f.blocks, b.ins.length ≤ 1000000
  args : ∀ b ∈ f.blocks, ∀ x ∈ b.ins, x.args.length ≤ 1000
  froms : ∀ b ∈ f.blocks, ∀ x ∈ b.ins, x.from_.length ≤ 1000
def headB (p : PProg) (f : PFun) : Bool := inB f.sig p.types.length && (decide ((p.types.getD f.sig.toNat default).kind = 3) && (decide (1 ≤ f.blocks.length ∧ f.blocks.length ≤ 16) && decide (manyB f.blocks ≤ 128)))
theorem fun_split (p : PrR) (f : FuR) : funB p.data f.data = (headB p.data f.data && f.blocks.all (blkOk p.types.length p.funs.length (regsP p.data f.data : Nat) f.blocks.length)) := by
  unfold funB headB
  congr 1
  show (f.blocks.map BlR.data).all _ = _
  rw [List.all_map]
  congr 1
  funext b
  show ((b.ins.map InR.data).all _ && _) = _
  rw [List.all_map]
  have h1 : p.data.types.length = p.types.length := tbl_len _
  have h2 : p.data.funs.length = p.funs.length := List.length_map ..
  have h3 : f.data.blocks.length = f.blocks.length := List.length_map ..
  rw [h1, h2, h3]
  rfl
/-- The boxes of a program and a function. -/
structure BoxF (w0 w : World) (g1 g2 : Nat) (p x : Array Value) : Prop where
  p : Blk w g1 35 p
  x : Blk w g2 55 x
  below : Below w0.heap.size w0 w
theorem BoxF.on {w0 w w' : World} {g1 g2 : Nat} {p x : Array Value} (h : BoxF w0 w g1 g2 p x) (hb : Below w.heap.size w w') : BoxF w0 w' g1 g2 p x := ⟨h.p.beneath hb, h.x.beneath hb, h.below.trans (hb.mono h.below.size)⟩
theorem BoxF.off {w0 w : World} {g1 g2 : Nat} {p x : Array Value} (h : BoxF w0 w g1 g2 p x) (n : Off w) : Below w0.heap.size w0 n.val := (h.on n.below).below
set_option maxRecDepth 100000 in
set_option maxHeartbeats 1600000 in
theorem rmayFunc_any {w : World} {p : PrR} (h : ProgIn w p) (hpp : ∀ t ∈ p.types, t.parts.length ≤ 1000000) (f : FuR) (hf : f.Ok w) (hfl : FuLim f) :
    Calls Tryd.prog 58 #[p.val, f.val] w fun e w' => e = .returned (.bool (funB p.data f.data)) ∧ Below w.heap.size w w' := by
  have hpl := h.types.len
  have hbl := hf.blocks.hdr.cle
  have HPP := Lib.hid hpp
  clear hpp
  have HX := Lib.hid hf
  have HP := Lib.hid h
  have HL := Lib.hid hfl
  have HMI := Lib.hid (fun W (hb : Below w.heap.size w W) (x : InR) (hx : x.Ok W) (hl : x.args.length ≤ 1000) (regs many : Int) => rmayIns_any (h.on hb) x hx hl regs many)
  have HPA := Lib.hid (fun W (hb : Below w.heap.size w W) (h0 : 0 ≤ f.sig) (h1 : f.sig < p.types.length) => rparams_any (h.on hb) f h0 h1)
  have HMY := Lib.hid (fun W (hb : Below w.heap.size w W) => rmany_any (hf.blocks.on hb) hfl.blocks hfl.ins)
  obtain ⟨q, hq⟩ : ∃ b, headB p.data f.data = b := ⟨_, rfl⟩
  obtain ⟨rg, hrg⟩ : ∃ b : Nat, regsP p.data f.data = b := ⟨_, rfl⟩
  obtain ⟨mn, hmn⟩ : ∃ b : Nat, manyB (f.blocks.map BlR.data) = b := ⟨_, rfl⟩
  have hsp := fun_split p f
  rw [hq, hrg] at hsp
  rw [hsp]
  rw [hmn] at HMY
  have hrg2 : f.sig < p.types.length → 0 ≤ f.sig → (p.types.getD f.sig.toNat default).parts.length + mn = rg := fun a b => by
    rw [← hrg, ← hmn]
    unfold regsP parsP
    have : p.data.types.getD f.data.sig.toNat default = (p.types.getD f.sig.toNat default).data := tbl_at (show f.sig.toNat < _ by omega)
    rw [this]
    rfl
  have hq2 : q = (inB f.sig p.types.length && (decide ((p.data.types.getD f.sig.toNat default).kind = 3) && (decide (1 ≤ f.blocks.length ∧ f.blocks.length ≤ 16) && decide (mn ≤ 128)))) := by
    rw [← hq, ← hmn]
    unfold headB
    rw [show p.data.types.length = p.types.length from tbl_len _, show f.data.blocks.length = f.blocks.length from List.length_map ..]
    rfl
  have hkd : f.sig < p.types.length → 0 ≤ f.sig → p.data.types.getD f.sig.toNat default = (p.types.getD f.sig.toNat default).data := fun a b => tbl_at (by omega)
  have HRG := Lib.hid hrg2
  have HQ := Lib.hid hq2
  have HKD := Lib.hid hkd
  unfold PrR.val FuR.val at *
  clear hsp hrg hq hmn hrg2 hq2 hkd hf h hfl
  obtain ⟨ta, tc, types, fa, fc, funs⟩ := p
  obtain ⟨sig, ba, bc, blocks⟩ := f
  dsimp only at *
  have HW1 := Lib.hid (show BoxF w ((w.alloc (.cells #[.slice ta types.length tc, .slice fa funs.length fc] 35)).alloc (.cells #[.int .i64 sig, .slice ba blocks.length bc] 55)) w.heap.size (w.heap.size + 1) #[.slice ta types.length tc, .slice fa funs.length fc] #[.int .i64 sig, .slice ba blocks.length bc] from
    ⟨(Blk.new w _ _).beneath ((Below.refl _ _).alloc (Nat.le_refl _) _), heap_at _ _ _ (World.size_alloc _ _), ((Below.refl _ _).alloc (Nat.le_refl _) _).alloc (by rw [World.size_alloc]; omega) _⟩)
  have HTR := Lib.hid (fun (k : Nat) (hk : k < types.length) => HP.out.types.rows.elem hk)
  go_enter Tryd.func58, Tryd.ntmps58
  go_upto_region 1 with fail
  go_cut [46] (fun c wx => c = .bool (!q) ∧ Hid (BoxF w wx w.heap.size (w.heap.size + 1) #[.slice ta types.length tc, .slice fa funs.length fc] #[.int .i64 sig, .slice ba blocks.length bc]))
  case first =>
    have x0 := HW1.out.x.cells 0; have x1 := HW1.out.x.cells 1; have p0 := HW1.out.p.cells 0; have p1 := HW1.out.p.cells 1
    by_cases s0 : 0 ≤ sig
    · by_cases s1 : sig < types.length
      · obtain ⟨k, rfl⟩ : ∃ k : Nat, sig = k := ⟨sig.toNat, by omega⟩
        have hk : k < types.length := by omega
        obtain ⟨b, off, rfl, hb, d0, _, _, _⟩ := (HTR.out k hk).at_
        have e0 := (HW1.out.below.cell (p := ⟨b, off + k * 4, none⟩) hb).trans d0
        clear d0
        have HKK : Hid (q = (decide ((types.getD k default).kind = 3) && (decide (1 ≤ blocks.length ∧ blocks.length ≤ 16) && decide (mn ≤ 128)))) := Lib.hid (by
          rw [HQ.out, inB_iff.2 ⟨s0, s1⟩, HKD.out s1 s0]
          rfl)
        obtain ⟨kd, hkd⟩ : ∃ kd, (types.getD k default).kind = kd := ⟨_, rfl⟩
        rw [hkd] at e0 HKK
        clear hkd HKD HTR
        by_cases k3 : kd = 3
        · subst k3
          by_cases b0 : 1 ≤ blocks.length
          · have b0z : (1 : Int) ≤ blocks.length := by omega
            by_cases b1 : blocks.length ≤ 16
            · have b1z : (blocks.length : Int) ≤ 16 := by omega
              have HK2 : Hid (q = decide (mn ≤ 128)) := Lib.hid (by rw [HKK.out, decide_eq_true (show 1 ≤ blocks.length ∧ blocks.length ≤ 16 from ⟨b0, b1⟩)]; simp)
              clear b0 b1
              go_wp2_with fail
              refine (HMY.out _ HW1.out.below).mono ?_
              rintro e w2 ⟨rfl, hb2⟩
              have HW2 := Lib.hid (HW1.out.on hb2)
              clear hb2 x0 x1 p0 p1 e0
              by_cases m0 : mn ≤ 128
              · have m0z : ¬ (128 : Int) < mn := by omega
                have HZ : Hid (q = true) := Lib.hid (by rw [HK2.out]; exact decide_eq_true m0)
                clear m0
                go_wp2_with fail
                go_meet
                exact ⟨by rw [HZ.out]; first | rfl | (congr 1; simp; omega), HW2⟩
              · have m0z : (128 : Int) < mn := by omega
                have HZ : Hid (q = false) := Lib.hid (by rw [HK2.out]; exact decide_eq_false m0)
                clear m0
                go_wp2_with fail
                go_meet
                exact ⟨by rw [HZ.out]; first | rfl | (congr 1; simp; omega), HW2⟩
            · have b1z : ¬ (blocks.length : Int) ≤ 16 := by omega
              have HZ : Hid (q = false) := Lib.hid (by rw [HKK.out, decide_eq_false (show ¬ (1 ≤ blocks.length ∧ blocks.length ≤ 16) by omega)]; simp)
              clear b0 b1
              go_wp2_with fail
              go_meet
              exact ⟨by rw [HZ.out]; rfl, HW1⟩
          · have b0z : ¬ (1 : Int) ≤ blocks.length := by omega
            have HZ : Hid (q = false) := Lib.hid (by rw [HKK.out, decide_eq_false (show ¬ (1 ≤ blocks.length ∧ blocks.length ≤ 16) by omega)]; simp)
            clear b0
            go_wp2_with fail
            go_meet
            exact ⟨by rw [HZ.out]; rfl, HW1⟩
        · have k3z : ((kd : Int) != 3) = true := bne_iff_ne.2 (by omega)
          have HZ : Hid (q = false) := Lib.hid (by rw [HKK.out, decide_eq_false k3]; rfl)
          clear k3
          go_wp2_with fail
          go_meet
          exact ⟨by rw [HZ.out]; rfl, HW1⟩
      · have HZ : Hid (q = false) := Lib.hid (by rw [HQ.out, inB_not.2 (by omega)]; rfl)
        go_wp2_with fail
        go_meet
        exact ⟨by rw [HZ.out]; rfl, HW1⟩
    · have HZ : Hid (q = false) := Lib.hid (by rw [HQ.out, inB_not.2 (by omega)]; rfl)
      go_wp2_with fail
      go_meet
      exact ⟨by rw [HZ.out]; rfl, HW1⟩
  case rest =>
    clear HW1
    obtain ⟨rfl, HW1⟩ := hcut
    cases q with
    | false =>
      go_wp2_with fail
      go_ret
      exact ⟨rfl, HW1.out.below⟩
    | true =>
      rw [Bool.not_true]
      have hq3 := HQ.out.symm
      rw [Bool.and_eq_true, inB_iff, Bool.and_eq_true, Bool.and_eq_true, decide_eq_true_eq, decide_eq_true_eq, decide_eq_true_eq] at hq3
      obtain ⟨⟨s0, s1⟩, k3, ⟨b0, b1⟩, m0⟩ := hq3
      have HPB := Lib.hid (fun W hb => HPA.out W hb s0 s1)
      have hrp := HRG.out s1 s0
      obtain ⟨pr, hpr⟩ : ∃ n, (types.getD sig.toNat default).parts.length = n := ⟨_, rfl⟩
      rw [hpr] at HPB hrp
      have hprl : pr ≤ 1000000 := by rw [← hpr]; exact HPP.out _ (mem_getD (d := default) (by omega))
      clear hpr k3 HKD HTR HRG HPA HQ s0 s1
      have b1z : (blocks.length : Int) ≤ 16 := by omega
      have x0 := HW1.out.x.cells 0; have x1 := HW1.out.x.cells 1; have p0 := HW1.out.p.cells 0; have p1 := HW1.out.p.cells 1
      go_upto_region 3 with fail
      refine wp_region_off (by kernel_rfl) (by kernel_rfl) ?_
      rintro W rfl
      have ox0 := fun m => Off.at x0 m
      have ox1 := fun m => Off.at x1 m
      have op0 := fun m => Off.at p0 m
      have op1 := fun m => Off.at p1 m
      repeat (go_big_quiet_step (first | (go_at_call 67; exact Calls.off (HPB.out _ (HW1.out.off _))) | (go_at_call 68; exact Calls.off (HMY.out _ (HW1.out.off _)))))
      refine wpQuiet_nil ?_
      intro w2 hw2
      obtain ⟨⟨w2, hb2⟩, rfl⟩ := hw2
      have HW2 := Lib.hid (HW1.out.on hb2)
      clear hb2 x0 x1 p0 p1 ox0 ox1 op0 op1
      clear HMY HPB
      rw [show (pr : Int) + (mn : Int) = (rg : Int) by omega]
      clear hrp m0 hprl
      go_wp2_with fail
      go_loopw [6] (fun i wr => ∃ k : Nat, k ≤ blocks.length ∧ i = .int .i64 k ∧ Hid (AllTo (blkOk types.length funs.length rg blocks.length) blocks k) ∧ Hid (BoxF w wr w.heap.size (w.heap.size + 1) #[.slice ta types.length tc, .slice fa funs.length fc] #[.int .i64 sig, .slice ba blocks.length bc])) (fun i _ => blocks.length - (intOf i).toNat)
      case atStart => exact ⟨0, Nat.zero_le _, rfl, Lib.hid (AllTo.zero _ _), HW2⟩
      case round =>
        clear HW1 HW2
        obtain ⟨k, hk, rfl, HT, HW1⟩ := hrel
        have x0 := HW1.out.x.cells 0; have x1 := HW1.out.x.cells 1; have p0 := HW1.out.p.cells 0; have p1 := HW1.out.p.cells 1
        by_cases hlt : k < blocks.length
        · obtain ⟨b, off, r, rfl, hb, ⟨c0, c1, c2, c3, c4⟩, hr, HE⟩ := (HX.out.blocks.on HW1.out.below).elem hlt
          have hrl := HL.out.ins _ (mem_getD (d := default) hlt)
          have hxl := HL.out.args _ (mem_getD (d := default) hlt)
          simp only [HE.out] at hrl hxl
          have hk0 : (0 : Int) ≤ (k : Int) := Int.natCast_nonneg _
          have hk1 : (k : Int) < (blocks.length : Int) := by omega
          obtain ⟨ia, ic, ins, kind, ea, et, el⟩ := r
          dsimp only at *
          have HR := Lib.hid hr
          have HXL := Lib.hid hxl
          have HLT := Lib.hid hlt
          obtain ⟨wo, rfl⟩ : ∃ wo : World, wo = wr := ⟨_, rfl⟩
          have HBK := Lib.hid (And.intro hb (And.intro c0 (And.intro c1 (And.intro c2 (And.intro c3 c4)))))
          clear hr hxl hlt
          go_wp2_with fail
          go_loopw [7] (fun i wr => ∃ j : Nat, j ≤ ins.length ∧ i = .int .i64 j ∧ Hid (AllTo (insOk types.length funs.length rg blocks.length) ins j) ∧ Hid (BoxF w wr w.heap.size (w.heap.size + 1) #[.slice ta types.length tc, .slice fa funs.length fc] #[.int .i64 sig, .slice (some ⟨b, off, none⟩) blocks.length bc]) ∧ Hid (Below wo.heap.size wo wr)) (fun i _ => ins.length - (intOf i).toNat)
          case atStart => exact ⟨0, Nat.zero_le _, rfl, Lib.hid (AllTo.zero _ _), HW1, Lib.hid (Below.refl _ _)⟩
          case round =>
            clear x0 x1 p0 p1 c0 c1 c2 c3 c4 hb
            obtain ⟨j, hj, rfl, HTJ, HW3, HB3⟩ := hrel
            obtain ⟨hb, c0, c1, c2, c3, c4⟩ := HBK.out
            replace c0 := (HB3.out.cell (p := ⟨b, off + k * 5, none⟩) hb).trans c0
            replace c1 := (HB3.out.cell (p := ⟨b, off + k * 5 + 1, none⟩) hb).trans c1
            replace c2 := (HB3.out.cell (p := ⟨b, off + k * 5 + 2, none⟩) hb).trans c2
            replace c3 := (HB3.out.cell (p := ⟨b, off + k * 5 + 3, none⟩) hb).trans c3
            replace c4 := (HB3.out.cell (p := ⟨b, off + k * 5 + 4, none⟩) hb).trans c4
            have x0 := HW3.out.x.cells 0; have x1 := HW3.out.x.cells 1; have p0 := HW3.out.p.cells 0; have p1 := HW3.out.p.cells 1
            by_cases hlt : j < ins.length
            · obtain ⟨bx, ox, x, rfl, hbx, ⟨d0, d1, d2, d3, d4, d5, d6⟩, hx, HEX⟩ := (HR.out.ins.on HB3.out).elem hlt
              have hj0 : (0 : Int) ≤ (j : Int) := Int.natCast_nonneg _
              have hj1 : (j : Int) < (ins.length : Int) := by omega
              have hal := HXL.out _ (mem_getD (d := default) hlt)
              rw [HEX.out] at hal
              obtain ⟨z, hz⟩ : ∃ z, insB x.data types.length funs.length rg blocks.length = z := ⟨_, rfl⟩
              have HC := Lib.hid (fun W (hw : Below w.heap.size w W) (hx : x.Ok W) => HMI.out W hw x hx hal rg blocks.length)
              rw [hz] at HC
              have HZ : Hid (insOk types.length funs.length rg blocks.length (ins.getD j default) = z) := Lib.hid (by rw [HEX.out]; exact hz)
              have HXO := Lib.hid hx
              have HLT2 := Lib.hid hlt
              clear hz hal hx hlt
              cases z
              all_goals
                go_wp2_with fail
                refine wp_region_off (by kernel_rfl) (by kernel_rfl) ?_
                rintro W rfl
                have ox0 := fun m => Off.at x0 m
                have ox1 := fun m => Off.at x1 m
                have op0 := fun m => Off.at p0 m
                have op1 := fun m => Off.at p1 m
                have oc0 := fun m => Off.at c0 m
                have od0 := fun m => Off.at d0 m
                have od1 := fun m => Off.at d1 m
                have od2 := fun m => Off.at d2 m
                have od3 := fun m => Off.at d3 m
                have od4 := fun m => Off.at d4 m
                have od5 := fun m => Off.at d5 m
                have od6 := fun m => Off.at d6 m
                repeat (go_big_quiet_step ((go_at_call 81; exact Calls.off (HC.out _ (HW3.out.off _) (HXO.out.on (Off.below _))))))
                refine wpQuiet_nil ?_
                intro w2 hw2
                obtain ⟨⟨w2, hb2⟩, rfl⟩ := hw2
                have HW4 := Lib.hid (HW3.out.on hb2)
                have HB4 := Lib.hid (HB3.out.trans (hb2.mono HB3.out.size))
                clear hb2 x0 x1 p0 p1 ox0 ox1 op0 op1 oc0 od0 od1 od2 od3 od4 od5 od6 d0 d1 d2 d3 d4 d5 d6 c0 c1 c2 c3 c4
                go_wp2_with fail
              · go_ret
                exact ⟨ret_bool (by rw [Bool.true_and]; exact (all_stop (d := default) HLT.out (by rw [HE.out]; unfold blkOk; rw [all_stop (d := default) HLT2.out HZ.out]; rfl)).symm), HW4.out.below⟩
              · go_roundw
                case rel => exact ⟨j + 1, HLT2.out, by go_num, Lib.hid (HTJ.out.step (d := default) HLT2.out HZ.out), HW4, HB4⟩
                case measure => have := HLT2.out; simp [intOf]; omega
            · have HJ := Lib.hid (HTJ.out.done (by omega))
              have hj1 : (j : Int) = ins.length := by omega
              obtain ⟨z, hz⟩ : ∃ z, endB ⟨kind, ea, et, el⟩ rg blocks.length = z := ⟨_, rfl⟩
              have HC := Lib.hid (fun W => rmayEnd_any (w := W) ⟨kind, ea, et, el⟩ rg blocks.length)
              unfold endVal at HC
              dsimp only at HC
              rw [hz] at HC
              have HZ := Lib.hid hz
              clear hz hlt
              cases z
              all_goals
                go_wp2_with fail
                refine wp_region_off (by kernel_rfl) (by kernel_rfl) ?_
                rintro W rfl
                have ox0 := fun m => Off.at x0 m
                have ox1 := fun m => Off.at x1 m
                have oc1 := fun m => Off.at c1 m
                have oc2 := fun m => Off.at c2 m
                have oc3 := fun m => Off.at c3 m
                have oc4 := fun m => Off.at c4 m
                repeat (go_big_quiet_step ((go_at_call 82; exact Calls.off (HC.out _))))
                refine wpQuiet_nil ?_
                intro w2 hw2
                obtain ⟨⟨w2, hb2⟩, rfl⟩ := hw2
                have HW4 := Lib.hid (HW3.out.on hb2)
                clear hb2 x0 x1 p0 p1 ox0 ox1 oc1 oc2 oc3 oc4 c0 c1 c2 c3 c4
                go_wp2_with fail
              · go_ret
                exact ⟨ret_bool (by rw [Bool.true_and]; exact (all_stop (d := default) HLT.out (by rw [HE.out]; unfold blkOk; rw [HZ.out, Bool.and_false])).symm), HW4.out.below⟩
              · go_roundw
                case rel => exact ⟨k + 1, HLT.out, by go_num, Lib.hid (HT.out.step (d := default) HLT.out (by rw [HE.out]; unfold blkOk; rw [HZ.out, HJ.out]; rfl)), HW4⟩
                case measure => have := HLT.out; simp [intOf]; omega
        · go_wp2_with fail
          go_ret
          exact ⟨ret_bool (by rw [Bool.true_and]; exact (HT.out.done (by omega)).symm), HW1.out.below⟩
end Go.Proofs.YtcbhmpkginebaaaDoor
namespace Go.Proofs.YtcbhmpkginebaaaDoor
set_option linter.unusedVariables false
set_option linter.unusedSimpArgs false
open Go.ChangeShapes Go.WideShapes Go.ChangeAt Go.RowKit

/-- What the statements go through of a program. -/
structure PrLim (p : PrR) : Prop where
  parts : ∀ t ∈ p.types, t.parts.length ≤ 1000
  funs : ∀ f ∈ p.funs, FuLim f
  many : p.funs.length ≤ 1000
/-- The box of a program. -/
structure BoxP (w0 w : World) (g1 : Nat) (p : Array Value) : Prop where
  p : Blk w g1 35 p
  below : Below w0.heap.size w0 w
theorem BoxP.on {w0 w w' : World} {g1 : Nat} {p : Array Value} (h : BoxP w0 w g1 p) (hb : Below w.heap.size w w') : BoxP w0 w' g1 p := ⟨h.p.beneath hb, h.below.trans (hb.mono h.below.size)⟩
theorem BoxP.off {w0 w : World} {g1 : Nat} {p : Array Value} (h : BoxP w0 w g1 p) (n : Off w) : Below w0.heap.size w0 n.val := (h.on n.below).below
theorem BoxP.new (w : World) (p : Array Value) : BoxP w (w.alloc (.cells p 35)) w.heap.size p := ⟨Blk.new w _ _, (Below.refl _ _).alloc (Nat.le_refl _) _⟩
theorem rchk_is {w : World} {A : Option Addr} {c : Nat} {rows : List TyR} (h : TabIn w A c rows) {e0 : Int} (he : checkT (tbl rows) = e0) : Calls Tryd.prog 57 #[.slice A rows.length c] w fun e w' => e = .returned (.int .i64 e0) ∧ Below w.heap.size w w' := he ▸ rcheck_any h
def funOk (p : PrR) (f : FuR) : Bool := funB p.data f.data
theorem check_split (p : PrR) {e0 : Int} (h : checkT (tbl p.types) = e0) : checkP p.data = if e0 ≠ 0 then e0 else if (1 ≤ p.funs.length ∧ p.funs.length ≤ 8) ∧ p.funs.all (funOk p) = true then 0 else 60 := by
  unfold checkP
  have h1 : p.data.types = tbl p.types := rfl
  have h2 : p.data.funs.length = p.funs.length := List.length_map ..
  have h3 : p.data.funs.all (funB p.data) = p.funs.all (funOk p) := by
    show (p.funs.map FuR.data).all _ = _
    rw [List.all_map]
    rfl
  rw [h1, h, h2, h3]
set_option maxRecDepth 100000 in
set_option maxHeartbeats 1600000 in
theorem rpcheck_any {w : World} {p : PrR} (h : ProgIn w p) (hl : PrLim p) :
    Calls Tryd.prog 29 #[p.val] w fun e w' => e = .returned (.int .i64 (checkP p.data)) ∧ Below w.heap.size w w' := by
  have hpl := h.types.len
  have hfl := h.funs.hdr.cle
  have HP := Lib.hid h
  have HL := Lib.hid hl
  obtain ⟨e0, he⟩ : ∃ e, checkT (tbl p.types) = e := ⟨_, rfl⟩
  obtain ⟨r, hr⟩ : ∃ e, checkP p.data = e := ⟨_, rfl⟩
  rw [hr]
  obtain ⟨P, hP⟩ : ∃ P, funOk p = P := ⟨_, rfl⟩
  have HR : Hid (r = if e0 ≠ 0 then e0 else if (1 ≤ p.funs.length ∧ p.funs.length ≤ 8) ∧ p.funs.all P = true then 0 else 60) := Lib.hid (by rw [← hr, ← hP]; exact check_split p he)
  have HE := Lib.hid he
  have HMF : Hid (∀ W, Below w.heap.size w W → ∀ f : FuR, f.Ok W → FuLim f → ∀ z : Bool, P f = z → Calls Tryd.prog 58 #[p.val, f.val] W fun e w' => e = .returned (.bool z) ∧ Below W.heap.size W w') := Lib.hid (by
    intro W hb f hf hl' z hz
    rw [← hz, ← hP]
    exact rmayFunc_any (h.on hb) (fun t ht => Nat.le_trans (hl.parts t ht) (by omega)) f hf hl')
  unfold PrR.val at *
  clear h hl hr he hP
  obtain ⟨ta, tc, types, fa, fc, funs⟩ := p
  dsimp only at *
  have HW1 := Lib.hid (BoxP.new w #[.slice ta types.length tc, .slice fa funs.length fc])
  have x0 := HW1.out.p.cells 0
  have x1 := HW1.out.p.cells 1
  go_enter Tryd.func29, Tryd.ntmps29
  go_wp2_with fail
  refine (rchk_is (HP.out.types.on HW1.out.below) HE.out).mono ?_
  rintro e w2 ⟨rfl, hb2⟩
  have HW2 := Lib.hid (HW1.out.on hb2)
  clear hb2 x0 x1
  by_cases z : e0 = 0
  · subst z
    have HR2 : Hid (r = if (1 ≤ funs.length ∧ funs.length ≤ 8) ∧ funs.all P = true then 0 else 60) := Lib.hid (by rw [HR.out]; exact if_neg (by decide))
    clear HR
    go_wp2_with fail
    go_loopw [4] (fun i wr => ∃ k : Nat, k ≤ funs.length ∧ i = .int .i64 k ∧ Hid (AllTo P funs k) ∧ Hid (BoxP w wr w.heap.size #[.slice ta types.length tc, .slice fa funs.length fc])) (fun i _ => funs.length - (intOf i).toNat)
    case atStart => exact ⟨0, Nat.zero_le _, rfl, Lib.hid (AllTo.zero _ _), HW2⟩
    case round =>
      clear HW1 HW2
      obtain ⟨k, hk, rfl, HT, HW1⟩ := hrel
      have x0 := HW1.out.p.cells 0
      have x1 := HW1.out.p.cells 1
      by_cases hlt : k < funs.length
      · obtain ⟨b, off, f, rfl, hb, ⟨c0, c1⟩, hf, HEF⟩ := (HP.out.funs.on HW1.out.below).elem hlt
        have hfl := HL.out.funs _ (mem_getD (d := default) hlt)
        dsimp only at hfl
        rw [HEF.out] at hfl
        have hk0 : (0 : Int) ≤ (k : Int) := Int.natCast_nonneg _
        have hk1 : (k : Int) < (funs.length : Int) := by omega
        obtain ⟨z, hz⟩ : ∃ z, P f = z := ⟨_, rfl⟩
        have HC := Lib.hid (fun W (hb : Below w.heap.size w W) (hf : f.Ok W) => HMF.out W hb f hf hfl z hz)
        have HZ : Hid (P (funs.getD k default) = z) := Lib.hid (by rw [HEF.out]; exact hz)
        have HFO := Lib.hid hf
        have HLT := Lib.hid hlt
        clear hz hfl hf hlt
        cases z
        all_goals
          go_wp2_with fail
          refine wp_region_off (by kernel_rfl) (by kernel_rfl) ?_
          rintro W rfl
          have ox0 := fun m => Off.at x0 m
          have ox1 := fun m => Off.at x1 m
          have oc0 := fun m => Off.at c0 m
          have oc1 := fun m => Off.at c1 m
          repeat (go_big_quiet_step ((go_at_call 58; exact Calls.off (HC.out _ (HW1.out.off _) (HFO.out.on (Off.below _))))))
          refine wpQuiet_nil ?_
          intro w2 hw2
          obtain ⟨⟨w2, hb2⟩, rfl⟩ := hw2
          have HW4 := Lib.hid (HW1.out.on hb2)
          clear hb2 x0 x1 ox0 ox1 oc0 oc1 c0 c1
          go_wp2_with fail
        · go_ret
          exact ⟨ret_num (by rw [HR2.out, if_neg (fun hh => by rw [all_stop (d := default) HLT.out HZ.out] at hh; cases hh.2)]), HW4.out.below⟩
        · go_roundw
          case rel => exact ⟨k + 1, HLT.out, by go_num, Lib.hid (HT.out.step (d := default) HLT.out HZ.out), HW4⟩
          case measure => have := HLT.out; simp [intOf]; omega
      · have HA := Lib.hid (HT.out.done (by omega))
        have hkz : (k : Int) = funs.length := by omega
        clear hlt
        by_cases l0 : 1 ≤ funs.length
        · have l0z : (1 : Int) ≤ funs.length := by omega
          by_cases l1 : funs.length ≤ 8
          · have l1z : (funs.length : Int) ≤ 8 := by omega
            have HZ : Hid (r = 0) := Lib.hid (by rw [HR2.out, if_pos ⟨⟨l0, l1⟩, HA.out⟩])
            clear l0 l1
            go_wp2_with fail
            go_ret
            exact ⟨ret_num HZ.out.symm, HW1.out.below⟩
          · have l1z : ¬ (funs.length : Int) ≤ 8 := by omega
            have HZ : Hid (r = 60) := Lib.hid (by rw [HR2.out, if_neg (fun hh => l1 hh.1.2)])
            clear l0 l1
            go_wp2_with fail
            go_ret
            exact ⟨ret_num HZ.out.symm, HW1.out.below⟩
        · have l0z : ¬ (1 : Int) ≤ funs.length := by omega
          have HZ : Hid (r = 60) := Lib.hid (by rw [HR2.out, if_neg (fun hh => l0 hh.1.1)])
          clear l0
          go_wp2_with fail
          go_ret
          exact ⟨ret_num HZ.out.symm, HW1.out.below⟩
  · have HZ : Hid (r = e0) := Lib.hid (by rw [HR.out, if_pos z])
    have ez : (e0 != 0) = true := bne_iff_ne.2 z
    clear z
    go_wp2_with fail
    go_ret
    exact ⟨ret_num HZ.out.symm, HW2.out.below⟩
theorem rpcheck_is {w : World} {p : PrR} (h : ProgIn w p) (hl : PrLim p) {e0 : Int} (he : checkP p.data = e0) :
    Calls Tryd.prog 29 #[p.val] w fun e w' => e = .returned (.int .i64 e0) ∧ Below w.heap.size w w' := he ▸ rpcheck_any h hl
set_option maxRecDepth 100000 in
set_option maxHeartbeats 1600000 in
theorem rasked_any {w : World} {p : PrR} (h : ProgIn w p) (hl : PrLim p) (f : Int) :
    Calls Tryd.prog 41 #[p.val, .int .i64 f] w fun e w' => e = .returned (.int .i64 (askedP p.data f)) ∧ Below w.heap.size w w' := by
  have hfl := h.funs.hdr.cle
  obtain ⟨e0, he⟩ : ∃ e, checkP p.data = e := ⟨_, rfl⟩
  obtain ⟨r, hr⟩ : ∃ e, askedP p.data f = e := ⟨_, rfl⟩
  rw [hr]
  have HR : Hid (r = if e0 ≠ 0 then e0 else if inB f p.funs.length then 0 else 2) := Lib.hid (by
    rw [← hr]; unfold askedP; rw [he, show p.data.funs.length = p.funs.length from List.length_map ..])
  have HC := Lib.hid (fun W (hb : Below w.heap.size w W) => rpcheck_is (h.on hb) hl he)
  unfold PrR.val at *
  clear h hl hr he
  obtain ⟨ta, tc, types, fa, fc, funs⟩ := p
  dsimp only at *
  have HW1 := Lib.hid (BoxP.new w #[.slice ta types.length tc, .slice fa funs.length fc])
  go_enter Tryd.func41, Tryd.ntmps41
  go_wp2_with fail
  refine (HC.out _ HW1.out.below).mono ?_
  rintro e w2 ⟨rfl, hb2⟩
  have HW2 := Lib.hid (HW1.out.on hb2)
  clear hb2
  have x0 := HW2.out.p.cells 0
  have x1 := HW2.out.p.cells 1
  by_cases z : e0 = 0
  · subst z
    have HR2 : Hid (r = if inB f funs.length then 0 else 2) := Lib.hid (by rw [HR.out]; exact if_neg (by decide))
    clear HR
    by_cases f0 : f < 0
    · have HZ : Hid (r = 2) := Lib.hid (by rw [HR2.out, inB_not.2 (by omega)]; rfl)
      go_wp2_with fail
      go_ret
      exact ⟨ret_num HZ.out.symm, HW2.out.below⟩
    by_cases f1 : f < funs.length
    · have HZ : Hid (r = 0) := Lib.hid (by rw [HR2.out, inB_iff.2 (by omega)]; rfl)
      go_wp2_with fail
      go_ret
      exact ⟨ret_num HZ.out.symm, HW2.out.below⟩
    · have HZ : Hid (r = 2) := Lib.hid (by rw [HR2.out, inB_not.2 (by omega)]; rfl)
      go_wp2_with fail
      go_ret
      exact ⟨ret_num HZ.out.symm, HW2.out.below⟩
  · have HZ : Hid (r = e0) := Lib.hid (by rw [HR.out, if_pos z])
    have ez : (e0 == 0) = false := beq_eq_false_iff_ne.2 z
    clear z
    go_wp2_with fail
    go_ret
    exact ⟨ret_num HZ.out.symm, HW2.out.below⟩
theorem rasked_is {w : World} {p : PrR} (h : ProgIn w p) (hl : PrLim p) {f e0 : Int} (he : askedP p.data f = e0) :
    Calls Tryd.prog 41 #[p.val, .int .i64 f] w fun e w' => e = .returned (.int .i64 e0) ∧ Below w.heap.size w w' := he ▸ rasked_any h hl f
end Go.Proofs.YtcbhmpkginebaaaDoor
namespace Go.Proofs.YtcbhmpkginebaaaDoor
set_option linter.unusedVariables false
set_option linter.unusedSimpArgs false
open Go.ChangeShapes Go.WideShapes Go.ChangeAt Go.RowKit

/-- A program whose function k may be. -/
structure FunGood (p : PrR) (k : Nat) (f : FuR) : Prop where
  lt : k < p.funs.length
  get : p.funs.getD k default = f
  s0 : 0 ≤ f.sig
  s1 : f.sig < p.types.length
  b0 : 1 ≤ f.blocks.length
  b1 : f.blocks.length ≤ 16
  many : manyB (f.blocks.map BlR.data) ≤ 128
theorem asked_ok {p : PrR} {f : Int} (h : askedP p.data f = 0) : ∃ k : Nat, f = k ∧ ∃ r, FunGood p k r := by
  unfold askedP at h
  by_cases hc : checkP p.data = 0
  · rw [if_neg (by simpa using hc)] at h
    by_cases hi : inB f p.data.funs.length = true
    · have hi2 := inB_iff.1 hi
      have hl : p.data.funs.length = p.funs.length := List.length_map ..
      rw [hl] at hi2
      have hs := check_split p rfl
      rw [hc] at hs
      by_cases ht : checkT (tbl p.types) = 0
      · rw [if_neg (by simpa using ht)] at hs
        by_cases ha : (1 ≤ p.funs.length ∧ p.funs.length ≤ 8) ∧ p.funs.all (funOk p) = true
        · have hk : f.toNat < p.funs.length := by omega
          have hf := List.all_eq_true.1 ha.2 _ (mem_getD (d := default) hk)
          unfold funOk at hf
          rw [fun_split, Bool.and_eq_true] at hf
          have hh := hf.1
          unfold headB at hh
          rw [Bool.and_eq_true, inB_iff, Bool.and_eq_true, Bool.and_eq_true, decide_eq_true_eq, decide_eq_true_eq, decide_eq_true_eq] at hh
          obtain ⟨⟨s0, s1⟩, _, ⟨b0, b1⟩, m0⟩ := hh
          rw [show p.data.types.length = p.types.length from tbl_len _] at s1
          rw [show (p.funs.getD f.toNat default).data.blocks.length = (p.funs.getD f.toNat default).blocks.length from List.length_map ..] at b0 b1
          exact ⟨f.toNat, by omega, _, ⟨hk, rfl, s0, s1, b0, b1, m0⟩⟩
        · rw [if_neg ha] at hs
          cases hs
      · rw [if_pos (by simpa using ht)] at hs
        exact absurd hs.symm ht
    · rw [if_neg hi] at h
      cases h
  · rw [if_pos (by simpa using hc)] at h
    exact absurd h hc
theorem fun_at {p : PrR} {k : Nat} {f : FuR} (h : FunGood p k f) : funAt p.data (k : Int) = f.data := by
  unfold funAt
  rw [Int.toNat_natCast]
  show (p.funs.map FuR.data).getD k default = _
  rw [map_getD FuR.data p.funs h.lt, h.get]
theorem pars_at {p : PrR} {k : Nat} {f : FuR} (h : FunGood p k f) : parsP p.data f.data = (p.types.getD f.sig.toNat default).parts.length := by
  unfold parsP
  have h0 := h.s0
  have h1 := h.s1
  have : p.data.types.getD f.data.sig.toNat default = (p.types.getD f.sig.toNat default).data := tbl_at (show f.sig.toNat < _ by omega)
  rw [this]
  rfl
theorem BlksAt.take {w : World} {A : Option Addr} {c : Nat} {rows : List BlR} (h : BlksAt w A c rows) {n : Nat} (hn : n ≤ rows.length) : BlksAt w A c (rows.take n) := by
  have hlen : (rows.take n).length = n := by rw [List.length_take]; omega
  refine ⟨⟨by rw [hlen]; exact Nat.le_trans hn h.hdr.fit, h.hdr.cap, fun e => ⟨by have := (h.hdr.nil e).1; rw [hlen]; omega, (h.hdr.nil e).2⟩⟩, ?_, fun r hr => h.ok r (List.mem_of_mem_take hr)⟩
  rw [hlen]
  intro hp
  obtain ⟨b, off, hA, h1, h2, hc⟩ := h.cells (by omega)
  refine ⟨b, off, hA, h1, h2, fun i hi j hj => ?_⟩
  have := hc i (by omega) j hj
  rw [this]
  show some ((rows.getD i default).cell j) = some (((rows.take n).getD i default).cell j)
  rw [List.getD_eq_getElem?_getD, List.getD_eq_getElem?_getD, List.getElem?_take_of_lt hi]
set_option maxRecDepth 100000 in
set_option maxHeartbeats 1600000 in
theorem rcount_any {w : World} {p : PrR} (h : ProgIn w p) (hl : PrLim p) {k : Nat} {f : FuR} (hg : FunGood p k f) :
    Calls Tryd.prog 42 #[p.val, .int .i64 k] w fun e w' => e = .returned (.int .i64 (regsP p.data f.data : Nat)) ∧ Below w.heap.size w w' := by
  have hk0 : (0 : Int) ≤ (k : Int) := Int.natCast_nonneg _
  have hk1 : (k : Int) < (p.funs.length : Int) := by have := hg.lt; omega
  have hfl := h.funs.hdr.cle
  have hfi : f ∈ p.funs := by rw [← hg.get]; exact mem_getD hg.lt
  have hlim := hl.funs f hfi
  have hok := h.funs.ok f hfi
  have hpr : (p.types.getD f.sig.toNat default).parts.length ≤ 1000 := hl.parts _ (mem_getD (d := default) (by have := hg.s0; have := hg.s1; omega))
  obtain ⟨rg, hrg⟩ : ∃ n : Nat, regsP p.data f.data = n := ⟨_, rfl⟩
  rw [hrg]
  have hrs : (p.types.getD f.sig.toNat default).parts.length + manyB (f.blocks.map BlR.data) = rg := by rw [← hrg, ← pars_at hg]; rfl
  have hmn := hg.many
  have HPA := Lib.hid (fun W (hb : Below w.heap.size w W) => rparams_any (h.on hb) f hg.s0 hg.s1)
  have HMY := Lib.hid (fun W (hb : Below w.heap.size w W) => rmany_any (hok.blocks.on hb) hlim.blocks hlim.ins)
  have HFU := Lib.hid (fun W (hb : Below w.heap.size w W) => (h.on hb).funs.elem hg.lt)
  have HGE := Lib.hid hg.get
  obtain ⟨pn, hpn⟩ : ∃ n, (p.types.getD f.sig.toNat default).parts.length = n := ⟨_, rfl⟩
  obtain ⟨mn, hm⟩ : ∃ n, manyB (f.blocks.map BlR.data) = n := ⟨_, rfl⟩
  rw [hpn] at HPA hrs hpr
  rw [hm] at HMY hrs hmn
  unfold PrR.val FuR.val at *
  clear h hl hg hfi hlim hok hrg hpn hm
  obtain ⟨ta, tc, types, fa, fc, funs⟩ := p
  dsimp only at *
  have HW1 := Lib.hid (BoxP.new w #[.slice ta types.length tc, .slice fa funs.length fc])
  have x0 := HW1.out.p.cells 0
  have x1 := HW1.out.p.cells 1
  obtain ⟨b, off, f', rfl, hb, ⟨c0, c1⟩, hf, HEF⟩ := HFU.out _ HW1.out.below
  obtain rfl : f' = f := HEF.out.symm.trans HGE.out
  clear HFU HEF HGE hf
  obtain ⟨sig, ba, bc, blocks⟩ := f'
  dsimp only at *
  go_enter Tryd.func42, Tryd.ntmps42
  go_wp2_with fail
  refine wp_region_off (by kernel_rfl) (by kernel_rfl) ?_
  rintro W rfl
  have ox0 := fun m => Off.at x0 m
  have ox1 := fun m => Off.at x1 m
  have oc0 := fun m => Off.at c0 m
  have oc1 := fun m => Off.at c1 m
  repeat (go_big_quiet_step (first | (go_at_call 67; exact Calls.off (HPA.out _ (HW1.out.off _))) | (go_at_call 68; exact Calls.off (HMY.out _ (HW1.out.off _)))))
  refine wpQuiet_nil ?_
  intro w2 hw2
  obtain ⟨⟨w2, hb2⟩, rfl⟩ := hw2
  have HW2 := Lib.hid (HW1.out.on hb2)
  go_wp2_with fail
  go_ret
  exact ⟨ret_num (by omega), HW2.out.below⟩
set_option maxRecDepth 100000 in
set_option maxHeartbeats 1600000 in
theorem rnumber_any {w : World} {p : PrR} (h : ProgIn w p) (hl : PrLim p) {k : Nat} {f : FuR} (hg : FunGood p k f) {bl at_ : Nat} (hbl : bl ≤ f.blocks.length) (hat : at_ ≤ 1000000) :
    Calls Tryd.prog 45 #[p.val, .int .i64 k, .int .i64 bl, .int .i64 at_] w fun e w' => e = .returned (.int .i64 ((parsP p.data f.data + manyB ((f.blocks.map BlR.data).take bl) + at_ : Nat))) ∧ Below w.heap.size w w' := by
  have hk0 : (0 : Int) ≤ (k : Int) := Int.natCast_nonneg _
  have hk1 : (k : Int) < (p.funs.length : Int) := by have := hg.lt; omega
  have hfl := h.funs.hdr.cle
  have hfi : f ∈ p.funs := by rw [← hg.get]; exact mem_getD hg.lt
  have hlim := hl.funs f hfi
  have hok := h.funs.ok f hfi
  have hpr : (p.types.getD f.sig.toNat default).parts.length ≤ 1000 := hl.parts _ (mem_getD (d := default) (by have := hg.s0; have := hg.s1; omega))
  rw [pars_at hg]
  have hmn : manyB ((f.blocks.map BlR.data).take bl) ≤ 128 := Nat.le_trans (many_le _ _) hg.many
  have HPA := Lib.hid (fun W (hb : Below w.heap.size w W) => rparams_any (h.on hb) f hg.s0 hg.s1)
  have hlt : (f.blocks.take bl).length = bl := by rw [List.length_take]; omega
  have HMY := Lib.hid (fun W (hb : Below w.heap.size w W) => rmany_any ((hok.blocks.on hb).take hbl) (by rw [hlt]; exact Nat.le_trans hbl hlim.blocks) (fun r hr => hlim.ins r (List.mem_of_mem_take hr)))
  rw [hlt, List.map_take] at HMY
  have HFU := Lib.hid (fun W (hb : Below w.heap.size w W) => (h.on hb).funs.elem hg.lt)
  have HGE := Lib.hid hg.get
  obtain ⟨pn, hpn⟩ : ∃ n, (p.types.getD f.sig.toNat default).parts.length = n := ⟨_, rfl⟩
  obtain ⟨mn, hm⟩ : ∃ n, manyB ((f.blocks.map BlR.data).take bl) = n := ⟨_, rfl⟩
  rw [hpn] at HPA hpr
  rw [hm] at HMY hmn
  rw [hpn, hm]
  have hbc : f.blocks.length ≤ f.bc := hok.blocks.hdr.fit
  have hbm : f.bc ≤ 9223372036854775807 := hok.blocks.hdr.cap
  unfold PrR.val FuR.val at *
  clear h hl hg hfi hlim hok hpn hm
  obtain ⟨ta, tc, types, fa, fc, funs⟩ := p
  dsimp only at *
  have HW1 := Lib.hid (BoxP.new w #[.slice ta types.length tc, .slice fa funs.length fc])
  have x0 := HW1.out.p.cells 0
  have x1 := HW1.out.p.cells 1
  obtain ⟨b, off, f', rfl, hb, ⟨c0, c1⟩, hf, HEF⟩ := HFU.out _ HW1.out.below
  obtain rfl : f' = f := HEF.out.symm.trans HGE.out
  clear HFU HEF HGE hf
  obtain ⟨sig, ba, bc, blocks⟩ := f'
  dsimp only at *
  have hb0 : (0 : Int) ≤ (bl : Int) := Int.natCast_nonneg _
  have hb1 : (bl : Int) ≤ (bc : Int) := by omega
  go_enter Tryd.func45, Tryd.ntmps45
  go_wp2_with fail
  refine wp_region_off (by kernel_rfl) (by kernel_rfl) ?_
  rintro W rfl
  have ox0 := fun m => Off.at x0 m
  have ox1 := fun m => Off.at x1 m
  have oc0 := fun m => Off.at c0 m
  have oc1 := fun m => Off.at c1 m
  repeat (go_big_quiet_step (first | (go_at_call 67; exact Calls.off (HPA.out _ (HW1.out.off _))) | (go_at_call 68; exact Calls.off (HMY.out _ (HW1.out.off _)))))
  refine wpQuiet_nil ?_
  intro w2 hw2
  obtain ⟨⟨w2, hb2⟩, rfl⟩ := hw2
  have HW2 := Lib.hid (HW1.out.on hb2)
  go_wp2_with fail
  go_ret
  exact ⟨ret_num (by omega), HW2.out.below⟩
end Go.Proofs.YtcbhmpkginebaaaDoor
namespace Go.Proofs.YtcbhmpkginebaaaDoor
set_option linter.unusedVariables false
set_option linter.unusedSimpArgs false
open Go.ChangeShapes Go.WideShapes Go.ChangeAt Go.RowKit

theorem where_hit (l : List PBlk) (base i k : Nat) (hi : i < l.length) (hk : k < (l.getD i default).ins.length) : whereB l base (manyB (l.take i) + k) = (base + i, k) := by
  induction l generalizing base i with
  | nil => cases hi
  | cons b l ih =>
    cases i with
    | zero =>
      have hk' : k < b.ins.length := hk
      show (if manyB [] + k < b.ins.length then (base, manyB [] + k) else _) = _
      rw [show manyB [] + k = k from Nat.zero_add k, if_pos hk', Nat.add_zero]
    | succ i =>
      have hm : manyB ((b :: l).take (i + 1)) = b.ins.length + manyB (l.take i) := by
        show ((b :: l.take i).map fun b => b.ins.length).sum = _
        rw [List.map_cons, List.sum_cons]
        rfl
      rw [hm]
      show (if b.ins.length + manyB (l.take i) + k < b.ins.length then _ else whereB l (base + 1) (b.ins.length + manyB (l.take i) + k - b.ins.length)) = _
      rw [if_neg (by omega), show b.ins.length + manyB (l.take i) + k - b.ins.length = manyB (l.take i) + k by omega, ih (base + 1) i (by simpa using hi) hk]
      congr 1
      omega
/-- Where an instruction stands: the block and the place, else -1 and the register. -/
def whereI (pars : Nat) (l : List PBlk) (r : Int) : Int × Int :=
  if pars ≤ r ∧ r < (pars + manyB l : Nat) then (((whereB l 0 (r.toNat - pars)).1 : Nat), ((whereB l 0 (r.toNat - pars)).2 : Nat)) else (-1, r)
theorem many_full {l : List PBlk} {n : Nat} (h : l.length ≤ n) : manyB (l.take n) = manyB l := by rw [List.take_of_length_le h]
theorem blk_ins {rows : List BlR} {i : Nat} (h : i < rows.length) {b : BlR} (hb : rows.getD i default = b) : ((rows.map BlR.data).getD i default).ins.length = b.ins.length := by
  rw [map_getD BlR.data rows h, hb]
  exact List.length_map ..
set_option maxRecDepth 100000 in
set_option maxHeartbeats 1600000 in
theorem rwhere_any {w : World} {p : PrR} (h : ProgIn w p) (hl : PrLim p) {k : Nat} {f : FuR} (hg : FunGood p k f) (r : Int) :
    Calls Tryd.prog 44 #[p.val, .int .i64 k, .int .i64 r] w fun e w' => e = .returned (.tuple #[.int .i64 (whereI (parsP p.data f.data) (f.blocks.map BlR.data) r).1, .int .i64 (whereI (parsP p.data f.data) (f.blocks.map BlR.data) r).2]) ∧ Below w.heap.size w w' := by
  have hk0 : (0 : Int) ≤ (k : Int) := Int.natCast_nonneg _
  have hk1 : (k : Int) < (p.funs.length : Int) := by have := hg.lt; omega
  have hfl := h.funs.hdr.cle
  have hfi : f ∈ p.funs := by rw [← hg.get]; exact mem_getD hg.lt
  have hok := h.funs.ok f hfi
  have hlim := hl.funs f hfi
  have hbl := hg.b1
  obtain ⟨pn, hpn⟩ : ∃ n : Nat, parsP p.data f.data = n := ⟨_, rfl⟩
  have hpr : pn ≤ 1000 := by
    rw [← hpn, pars_at hg]
    exact hl.parts _ (mem_getD (d := default) (by have := hg.s0; have := hg.s1; omega))
  have HNU := Lib.hid (fun W (hb : Below w.heap.size w W) (bl at_ : Nat) (h1 : bl ≤ f.blocks.length) (h2 : at_ ≤ 1000000) => rnumber_any (h.on hb) hl hg h1 h2)
  have HFU := Lib.hid (fun W (hb : Below w.heap.size w W) => (h.on hb).funs.elem hg.lt)
  have HGE := Lib.hid hg.get
  have HBK := Lib.hid (fun W (hb : Below w.heap.size w W) (i : Nat) (hi : i < f.blocks.length) => (hok.blocks.on hb).elem hi)
  have HIN := Lib.hid (hlim.ins)
  rw [hpn] at HNU
  rw [hpn]
  obtain ⟨res, hres⟩ : ∃ r', whereI pn (f.blocks.map BlR.data) r = r' := ⟨_, rfl⟩
  have HRES := Lib.hid hres
  rw [hres]
  have HMB := Lib.hid hg.many
  unfold PrR.val at *
  clear h hl hg hfi hlim hok hpn hres
  obtain ⟨ta, tc, types, fa, fc, funs⟩ := p
  dsimp only at *
  have HW1 := Lib.hid (BoxP.new w #[.slice ta types.length tc, .slice fa funs.length fc])
  obtain ⟨bf, of_, hfa, hbf, hc0, hc1⟩ : ∃ b off, fa = some ⟨b, off, none⟩ ∧ b < w.heap.size ∧ w.cell? ⟨b, off + k * 2, none⟩ = some (.int .i64 f.sig) ∧ w.cell? ⟨b, off + k * 2 + 1, none⟩ = some (.slice f.ba f.blocks.length f.bc) := by
    obtain ⟨b, off, f', e, hb, ⟨c0, c1⟩, _, HEF⟩ := HFU.out w (Below.refl _ _)
    obtain rfl : f' = f := HEF.out.symm.trans HGE.out
    exact ⟨b, off, e, hb, c0, c1⟩
  subst hfa
  have HC1 := Lib.hid (fun W (hb : Below w.heap.size w W) => (hb.cell (p := ⟨bf, of_ + k * 2 + 1, none⟩) hbf).trans hc1)
  clear HFU HGE hc0 hc1
  obtain ⟨sig, ba, bc, blocks⟩ := f
  dsimp only at *
  go_enter Tryd.func44, Tryd.ntmps44
  go_wp2_with fail
  go_loopw [8] (fun i wr => ∃ i' : Nat, i' ≤ blocks.length ∧ i = .int .i64 i' ∧ Hid (¬ (pn ≤ r ∧ r < (pn + manyB ((blocks.map BlR.data).take i') : Nat))) ∧ Hid (BoxP w wr w.heap.size #[.slice ta types.length tc, .slice (some ⟨bf, of_, none⟩) funs.length fc])) (fun i _ => blocks.length - (intOf i).toNat)
  case atStart => exact ⟨0, Nat.zero_le _, rfl, Lib.hid (by show ¬ (_ ∧ r < (pn + 0 : Nat)); omega), HW1⟩
  case round =>
    clear HW1
    obtain ⟨i, hi, rfl, HN, HW1⟩ := hrel
    have x0 := HW1.out.p.cells 0
    have x1 := HW1.out.p.cells 1
    have c1 := HC1.out _ HW1.out.below
    by_cases hlt : i < blocks.length
    · have hi0 : (0 : Int) ≤ (i : Int) := Int.natCast_nonneg _
      have hi1 : (i : Int) < (blocks.length : Int) := by omega
      obtain ⟨bb, ob, bl, rfl, hbb, ⟨d0, _, _, _, _⟩, _, HEB⟩ := HBK.out w (Below.refl _ _) i hlt
      have hil := HIN.out bl (by rw [← HEB.out]; exact mem_getD hlt)
      have HD0 := Lib.hid (fun W (hb : Below w.heap.size w W) => (hb.cell (p := ⟨bb, ob + i * 5, none⟩) hbb).trans d0)
      have HBI := Lib.hid (blk_ins hlt HEB.out)
      have HMS := Lib.hid (many_take (l := blocks.map BlR.data) (k := i) (by rw [List.length_map]; exact hlt))
      have HLT := Lib.hid hlt
      obtain ⟨n, hn⟩ : ∃ n, bl.ins.length = n := ⟨_, rfl⟩
      rw [hn] at hil HD0 HBI
      rw [HBI.out] at HMS
      have dd := HD0.out _ HW1.out.below
      have HMT := Lib.hid (Nat.le_trans (many_le (blocks.map BlR.data) i) HMB.out)
      obtain ⟨m, hm⟩ : ∃ m, manyB ((blocks.map BlR.data).take i) = m := ⟨_, rfl⟩
      rw [hm] at HN HMS HMT
      have HM := Lib.hid hm
      clear d0 hlt hn hm
      obtain ⟨wo, rfl⟩ : ∃ wo : World, wo = wr := ⟨_, rfl⟩
      go_wp2_with fail
      go_loopw [9] (fun i' wr => ∃ j : Nat, j ≤ n ∧ i' = .int .i64 j ∧ Hid (¬ (pn ≤ r ∧ r < (pn + (m + j) : Nat))) ∧ Hid (BoxP w wr w.heap.size #[.slice ta types.length tc, .slice (some ⟨bf, of_, none⟩) funs.length fc])) (fun i' _ => n - (intOf i').toNat)
      case atStart => exact ⟨0, Nat.zero_le _, rfl, Lib.hid (by rw [Nat.add_zero]; exact HN.out), HW1⟩
      case round =>
        clear x0 x1 c1 dd
        obtain ⟨j, hj, rfl, HNJ, HW3⟩ := hrel
        have x0 := HW3.out.p.cells 0
        have x1 := HW3.out.p.cells 1
        have c1 := HC1.out _ HW3.out.below
        have dd := HD0.out _ HW3.out.below
        by_cases hlt : j < n
        · have hj1 : (j : Int) < n := by omega
          have hjj : j ≤ 1000000 := by omega
          go_wp2_with fail
          refine (HNU.out _ HW3.out.below i j (Nat.le_of_lt HLT.out) hjj).mono ?_
          rintro e w4 ⟨rfl, hb4⟩
          have HW4 := Lib.hid (HW3.out.on hb4)
          clear hb4
          rw [HM.out]
          by_cases hr : r = ((pn + m + j : Nat) : Int)
          · have HZ : Hid (res = ((i : Int), (j : Int))) := Lib.hid (by
              rw [← HRES.out]
              unfold whereI
              have hle := many_le (blocks.map BlR.data) (i + 1)
              rw [HMS.out] at hle
              rw [if_pos (by omega), show r.toNat - pn = m + j by omega, ← HM.out, where_hit _ 0 i j (by rw [List.length_map]; exact HLT.out) (by rw [HBI.out]; exact hlt), Nat.zero_add])
            have hrb : (((pn + m + j : Nat) : Int) == r) = true := by rw [hr]; exact beq_self_eq_true _
            go_wp2_with fail
            go_ret2
            exact ⟨by rw [HZ.out] <;> rfl, HW4.out.below⟩
          · have hrb : (((pn + m + j : Nat) : Int) == r) = false := beq_eq_false_iff_ne.2 (fun e => hr e.symm)
            have HNX : Hid (¬ (pn ≤ r ∧ r < (pn + (m + (j + 1)) : Nat))) := Lib.hid (by have := HNJ.out; omega)
            have HLJ := Lib.hid hlt
            clear hr hlt
            go_wp2_with fail
            go_roundw
            case rel => exact ⟨j + 1, HLJ.out, by go_num, HNX, HW4⟩
            case measure => have := HLJ.out; simp [intOf]; omega
        · have hjn : (j : Int) = n := by omega
          obtain rfl : j = n := by omega
          go_wp2_with fail
          go_roundw
          case rel => exact ⟨i + 1, HLT.out, by go_num, Lib.hid (by rw [HMS.out]; exact HNJ.out), HW3⟩
          case measure => have := HLT.out; simp [intOf]; omega
    · have hin : (i : Int) = blocks.length := by omega
      have HZ : Hid (res = (-1, r)) := Lib.hid (by
        rw [← HRES.out]
        unfold whereI
        have := HN.out
        rw [many_full (by rw [List.length_map]; omega)] at this
        rw [if_neg this])
      clear hlt
      go_wp2_with fail
      go_ret2
      exact ⟨by rw [HZ.out] <;> rfl, HW1.out.below⟩
end Go.Proofs.YtcbhmpkginebaaaDoor
namespace Go.Proofs.YtcbhmpkginebaaaDoor
set_option linter.unusedVariables false
set_option linter.unusedSimpArgs false
open Go.ChangeShapes Go.WideShapes Go.ChangeAt Go.RowKit

theorem rcount_is {w : World} {p : PrR} (h : ProgIn w p) (hl : PrLim p) {k : Nat} {f : FuR} (hg : FunGood p k f) {n : Nat} (hn : regsP p.data f.data = n) :
    Calls Tryd.prog 42 #[p.val, .int .i64 k] w fun e w' => e = .returned (.int .i64 n) ∧ Below w.heap.size w w' := hn ▸ rcount_any h hl hg
theorem rwhere_is {w : World} {p : PrR} (h : ProgIn w p) (hl : PrLim p) {k : Nat} {f : FuR} (hg : FunGood p k f) (r : Int) {a b : Int} (hw : whereI (parsP p.data f.data) (f.blocks.map BlR.data) r = (a, b)) :
    Calls Tryd.prog 44 #[p.val, .int .i64 k, .int .i64 r] w fun e w' => e = .returned (.tuple #[.int .i64 a, .int .i64 b]) ∧ Below w.heap.size w w' := by
  have := rwhere_any h hl hg r
  rwa [hw] at this
set_option maxRecDepth 100000 in
set_option maxHeartbeats 1600000 in
theorem rregs_any {w : World} {p : PrR} (h : ProgIn w p) (hl : PrLim p) (f : Int) :
    Calls Tryd.prog 18 #[p.val, .int .i64 f] w fun e w' => e = .returned (.tuple #[.int .i64 (regsE p.data f).1, .int .i64 (regsE p.data f).2]) ∧ Below w.heap.size w w' := by
  obtain ⟨e0, he⟩ : ∃ e, askedP p.data f = e := ⟨_, rfl⟩
  obtain ⟨r, hr⟩ : ∃ e, regsE p.data f = e := ⟨_, rfl⟩
  rw [hr]
  have HC := Lib.hid (fun W (hb : Below w.heap.size w W) => rasked_is (h.on hb) hl he)
  have HW1 := Lib.hid (BoxP.new w #[.slice p.ta p.types.length p.tc, .slice p.fa p.funs.length p.fc])
  by_cases z : e0 = 0
  · subst z
    obtain ⟨k, rfl, fr, hg⟩ := asked_ok he
    obtain ⟨n, hn⟩ : ∃ n, regsP p.data fr.data = n := ⟨_, rfl⟩
    have HZ : Hid (r = ((n : Int), 0)) := Lib.hid (by rw [← hr, ← hn]; unfold regsE; rw [if_neg (by simpa using he), fun_at hg])
    have HK := Lib.hid (fun W (hb : Below w.heap.size w W) => rcount_is (h.on hb) hl hg hn)
    unfold PrR.val at *
    clear h hl hr he hg hn
    obtain ⟨ta, tc, types, fa, fc, funs⟩ := p
    dsimp only at *
    go_enter Tryd.func18, Tryd.ntmps18
    go_wp2_with fail
    refine (HC.out _ HW1.out.below).mono ?_
    rintro e w2 ⟨rfl, hb2⟩
    have HW2 := Lib.hid (HW1.out.on hb2)
    clear hb2
    have x0 := HW2.out.p.cells 0
    have x1 := HW2.out.p.cells 1
    go_wp2_with fail
    refine (HK.out _ HW2.out.below).mono ?_
    rintro e w3 ⟨rfl, hb3⟩
    have HW3 := Lib.hid (HW2.out.on hb3)
    clear hb3
    go_wp2_with fail
    go_ret2
    exact ⟨by rw [HZ.out] <;> rfl, HW3.out.below⟩
  · have HZ : Hid (r = (0, e0)) := Lib.hid (by rw [← hr]; unfold regsE; rw [if_pos (by rw [he]; exact z), he])
    have ez : (e0 != 0) = true := bne_iff_ne.2 z
    unfold PrR.val at *
    clear h hl hr he z
    obtain ⟨ta, tc, types, fa, fc, funs⟩ := p
    dsimp only at *
    go_enter Tryd.func18, Tryd.ntmps18
    go_wp2_with fail
    refine (HC.out _ HW1.out.below).mono ?_
    rintro e w2 ⟨rfl, hb2⟩
    have HW2 := Lib.hid (HW1.out.on hb2)
    clear hb2
    go_wp2_with fail
    go_ret2
    exact ⟨by rw [HZ.out] <;> rfl, HW2.out.below⟩
theorem place_in {p : PrR} {k : Nat} {f : FuR} (hg : FunGood p k f) (h0 : askedP p.data k = 0) (r : Int) : placeE p.data k r = if inB r (regsP p.data f.data) then ((whereI (parsP p.data f.data) (f.blocks.map BlR.data) r).1, (whereI (parsP p.data f.data) (f.blocks.map BlR.data) r).2, 0) else (0, 0, 2) := by
  unfold placeE
  rw [if_neg (by simpa using h0), fun_at hg]
  by_cases hi : inB r (regsP p.data f.data) = true
  · rw [if_pos hi, if_pos hi]
    obtain ⟨r0, r1⟩ := inB_iff.1 hi
    unfold whereI
    by_cases hp : r < parsP p.data f.data
    · rw [if_pos hp, if_neg (by omega)]
    · rw [if_neg hp, if_pos ⟨by omega, r1⟩]
      rfl
  · rw [if_neg hi, if_neg hi]
set_option maxRecDepth 100000 in
set_option maxHeartbeats 1600000 in
theorem rplace_any {w : World} {p : PrR} (h : ProgIn w p) (hl : PrLim p) (f r : Int) :
    Calls Tryd.prog 20 #[p.val, .int .i64 f, .int .i64 r] w fun e w' => e = .returned (.tuple #[.int .i64 (placeE p.data f r).1, .int .i64 (placeE p.data f r).2.1, .int .i64 (placeE p.data f r).2.2]) ∧ Below w.heap.size w w' := by
  obtain ⟨e0, he⟩ : ∃ e, askedP p.data f = e := ⟨_, rfl⟩
  obtain ⟨q, hq⟩ : ∃ e, placeE p.data f r = e := ⟨_, rfl⟩
  rw [hq]
  have HC := Lib.hid (fun W (hb : Below w.heap.size w W) => rasked_is (h.on hb) hl he)
  have HW1 := Lib.hid (BoxP.new w #[.slice p.ta p.types.length p.tc, .slice p.fa p.funs.length p.fc])
  by_cases z : e0 = 0
  · subst z
    obtain ⟨k, rfl, fr, hg⟩ := asked_ok he
    obtain ⟨n, hn⟩ : ∃ n, regsP p.data fr.data = n := ⟨_, rfl⟩
    obtain ⟨⟨wa, wb⟩, hw⟩ : ∃ n, whereI (parsP p.data fr.data) (fr.blocks.map BlR.data) r = n := ⟨_, rfl⟩
    have HQ : Hid (q = if inB r n then (wa, wb, 0) else (0, 0, 2)) := Lib.hid (by rw [← hq, place_in hg he, hn, hw])
    have HK := Lib.hid (fun W (hb : Below w.heap.size w W) => rcount_is (h.on hb) hl hg hn)
    have HH := Lib.hid (fun W (hb : Below w.heap.size w W) => rwhere_is (h.on hb) hl hg r hw)
    unfold PrR.val at *
    clear h hl hq he hg hn hw
    obtain ⟨ta, tc, types, fa, fc, funs⟩ := p
    dsimp only at *
    by_cases r0 : r < 0
    · have HZ : Hid (q = (0, 0, 2)) := Lib.hid (by rw [HQ.out, inB_not.2 (by omega)]; rfl)
      go_enter Tryd.func20, Tryd.ntmps20
      go_wp2_with fail
      refine (HC.out _ HW1.out.below).mono ?_
      rintro e w2 ⟨rfl, hb2⟩
      have HW2 := Lib.hid (HW1.out.on hb2)
      clear hb2
      go_wp2_with fail
      go_ret3
      exact ⟨by rw [HZ.out] <;> rfl, HW2.out.below⟩
    by_cases r1 : r < n
    · have HZ : Hid (q = (wa, wb, 0)) := Lib.hid (by rw [HQ.out, inB_iff.2 (by omega)]; rfl)
      go_enter Tryd.func20, Tryd.ntmps20
      go_wp2_with fail
      refine (HC.out _ HW1.out.below).mono ?_
      rintro e w2 ⟨rfl, hb2⟩
      have HW2 := Lib.hid (HW1.out.on hb2)
      clear hb2
      have x0 := HW2.out.p.cells 0
      have x1 := HW2.out.p.cells 1
      go_wp2_with fail
      refine (HK.out _ HW2.out.below).mono ?_
      rintro e w3 ⟨rfl, hb3⟩
      have HW3 := Lib.hid (HW2.out.on hb3)
      clear hb3 x0 x1
      have x0 := HW3.out.p.cells 0
      have x1 := HW3.out.p.cells 1
      go_wp2_with fail
      refine (HH.out _ HW3.out.below).mono ?_
      rintro e w4 ⟨rfl, hb4⟩
      have HW4 := Lib.hid (HW3.out.on hb4)
      clear hb4
      go_wp2_with fail
      go_ret3
      exact ⟨by rw [HZ.out] <;> rfl, HW4.out.below⟩
    · have HZ : Hid (q = (0, 0, 2)) := Lib.hid (by rw [HQ.out, inB_not.2 (by omega)]; rfl)
      go_enter Tryd.func20, Tryd.ntmps20
      go_wp2_with fail
      refine (HC.out _ HW1.out.below).mono ?_
      rintro e w2 ⟨rfl, hb2⟩
      have HW2 := Lib.hid (HW1.out.on hb2)
      clear hb2
      have x0 := HW2.out.p.cells 0
      have x1 := HW2.out.p.cells 1
      go_wp2_with fail
      refine (HK.out _ HW2.out.below).mono ?_
      rintro e w3 ⟨rfl, hb3⟩
      have HW3 := Lib.hid (HW2.out.on hb3)
      clear hb3
      go_wp2_with fail
      go_ret3
      exact ⟨by rw [HZ.out] <;> rfl, HW3.out.below⟩
  · have HZ : Hid (q = (0, 0, e0)) := Lib.hid (by rw [← hq]; unfold placeE; rw [if_pos (by rw [he]; exact z), he])
    have ez : (e0 != 0) = true := bne_iff_ne.2 z
    have ez2 : (e0 == 0) = false := beq_eq_false_iff_ne.2 z
    unfold PrR.val at *
    clear h hl hq he z
    obtain ⟨ta, tc, types, fa, fc, funs⟩ := p
    dsimp only at *
    go_enter Tryd.func20, Tryd.ntmps20
    go_wp2_with fail
    refine (HC.out _ HW1.out.below).mono ?_
    rintro e w2 ⟨rfl, hb2⟩
    have HW2 := Lib.hid (HW1.out.on hb2)
    clear hb2
    go_wp2_with fail
    go_ret3
    exact ⟨by rw [HZ.out] <;> rfl, HW2.out.below⟩
theorem reg_in {p : PrR} {k : Nat} {f : FuR} (hg : FunGood p k f) (h0 : askedP p.data k = 0) (b i : Int) : regE p.data k b i = if inB b f.blocks.length && inB i (f.blocks.getD b.toNat default).ins.length then (((parsP p.data f.data + manyB ((f.blocks.map BlR.data).take b.toNat) + i.toNat : Nat) : Int), 0) else (0, 2) := by
  unfold regE
  rw [if_neg (by simpa using h0), fun_at hg]
  rw [show f.data.blocks.length = f.blocks.length from List.length_map ..]
  by_cases hb : inB b f.blocks.length = true
  · obtain ⟨b0, b1⟩ := inB_iff.1 hb
    have hk : b.toNat < f.blocks.length := by omega
    rw [show ((f.data.blocks.getD b.toNat default).ins.length) = (f.blocks.getD b.toNat default).ins.length from blk_ins hk rfl]
    rfl
  · rw [Bool.not_eq_true] at hb
    rw [hb]
    rfl
set_option maxRecDepth 100000 in
set_option maxHeartbeats 1600000 in
theorem rreg_any {w : World} {p : PrR} (h : ProgIn w p) (hl : PrLim p) (f b i : Int) :
    Calls Tryd.prog 22 #[p.val, .int .i64 f, .int .i64 b, .int .i64 i] w fun e w' => e = .returned (.tuple #[.int .i64 (regE p.data f b i).1, .int .i64 (regE p.data f b i).2]) ∧ Below w.heap.size w w' := by
  obtain ⟨e0, he⟩ : ∃ e, askedP p.data f = e := ⟨_, rfl⟩
  obtain ⟨q, hq⟩ : ∃ e, regE p.data f b i = e := ⟨_, rfl⟩
  rw [hq]
  have HC := Lib.hid (fun W (hb : Below w.heap.size w W) => rasked_is (h.on hb) hl he)
  have HW1 := Lib.hid (BoxP.new w #[.slice p.ta p.types.length p.tc, .slice p.fa p.funs.length p.fc])
  by_cases z : e0 = 0
  · subst z
    obtain ⟨k, rfl, fr, hg⟩ := asked_ok he
    have hk0 : (0 : Int) ≤ (k : Int) := Int.natCast_nonneg _
    have hk1 : (k : Int) < (p.funs.length : Int) := by have := hg.lt; omega
    have hfl := h.funs.hdr.cle
    have hfi : fr ∈ p.funs := by rw [← hg.get]; exact mem_getD hg.lt
    have hok := h.funs.ok fr hfi
    have hlim := hl.funs fr hfi
    have hbl := hg.b1
    have HQ : Hid (q = if inB b fr.blocks.length && inB i (fr.blocks.getD b.toNat default).ins.length then (((parsP p.data fr.data + manyB ((fr.blocks.map BlR.data).take b.toNat) + i.toNat : Nat) : Int), 0) else (0, 2)) := Lib.hid (by rw [← hq, reg_in hg he])
    have HNU := Lib.hid (fun W (hb : Below w.heap.size w W) (bl at_ : Nat) (h1 : bl ≤ fr.blocks.length) (h2 : at_ ≤ 1000000) => rnumber_any (h.on hb) hl hg h1 h2)
    have HFU := Lib.hid (fun W (hb : Below w.heap.size w W) => (h.on hb).funs.elem hg.lt)
    have HGE := Lib.hid hg.get
    have HBK := Lib.hid (fun W (hb : Below w.heap.size w W) (i : Nat) (hi : i < fr.blocks.length) => (hok.blocks.on hb).elem hi)
    have HIN := Lib.hid (hlim.ins)
    unfold PrR.val at *
    clear h hl hq he hg hfi hok hlim
    obtain ⟨pn, hpn⟩ : ∃ pn : Nat, parsP p.data fr.data = pn := ⟨_, rfl⟩
    rw [hpn] at HQ HNU
    clear hpn
    obtain ⟨ta, tc, types, fa, fc, funs⟩ := p
    dsimp only at *
    obtain ⟨bf, of_, hfa, hbf, hc0, hc1⟩ : ∃ b off, fa = some ⟨b, off, none⟩ ∧ b < w.heap.size ∧ w.cell? ⟨b, off + k * 2, none⟩ = some (.int .i64 fr.sig) ∧ w.cell? ⟨b, off + k * 2 + 1, none⟩ = some (.slice fr.ba fr.blocks.length fr.bc) := by
      obtain ⟨b, off, f', e, hb, ⟨c0, c1⟩, _, HEF⟩ := HFU.out w (Below.refl _ _)
      obtain rfl : f' = fr := HEF.out.symm.trans HGE.out
      exact ⟨b, off, e, hb, c0, c1⟩
    subst hfa
    have HC1 := Lib.hid (fun W (hb : Below w.heap.size w W) => (hb.cell (p := ⟨bf, of_ + k * 2 + 1, none⟩) hbf).trans hc1)
    clear HFU HGE hc0 hc1
    obtain ⟨sig, ba, bc, blocks⟩ := fr
    dsimp only at *
    by_cases b0 : b < 0
    · have HZ : Hid (q = (0, 2)) := Lib.hid (by rw [HQ.out, inB_not.2 (by omega)]; rfl)
      go_enter Tryd.func22, Tryd.ntmps22
      go_wp2_with fail
      refine (HC.out _ HW1.out.below).mono ?_
      rintro e w2 ⟨rfl, hb2⟩
      have HW2 := Lib.hid (HW1.out.on hb2)
      clear hb2
      go_wp2_with fail
      go_ret2
      exact ⟨by rw [HZ.out] <;> rfl, HW2.out.below⟩
    by_cases b1 : b < blocks.length
    · obtain ⟨bn, rfl⟩ : ∃ bn : Nat, b = bn := ⟨b.toNat, by omega⟩
      have hlt : bn < blocks.length := by omega
      obtain ⟨bb, ob, bl, rfl, hbb, ⟨d0, _, _, _, _⟩, _, HEB⟩ := HBK.out w (Below.refl _ _) bn hlt
      have hil := HIN.out bl (by rw [← HEB.out]; exact mem_getD hlt)
      have HD0 := Lib.hid (fun W (hb : Below w.heap.size w W) => (hb.cell (p := ⟨bb, ob + bn * 5, none⟩) hbb).trans d0)
      have HQ2 : Hid (q = if inB i bl.ins.length then (((pn + manyB ((blocks.map BlR.data).take bn) + i.toNat : Nat) : Int), 0) else (0, 2)) := Lib.hid (by
        rw [HQ.out, Int.toNat_natCast, inB_iff.2 ⟨by omega, b1⟩, HEB.out]; rfl)
      have HLT := Lib.hid (Nat.le_of_lt hlt)
      obtain ⟨n, hn⟩ : ∃ n, bl.ins.length = n := ⟨_, rfl⟩
      rw [hn] at hil HD0 HQ2
      clear d0 hlt hn HQ
      by_cases i0 : i < 0
      · have HZ : Hid (q = (0, 2)) := Lib.hid (by rw [HQ2.out, inB_not.2 (by omega)]; rfl)
        go_enter Tryd.func22, Tryd.ntmps22
        go_wp2_with fail
        refine (HC.out _ HW1.out.below).mono ?_
        rintro e w2 ⟨rfl, hb2⟩
        have HW2 := Lib.hid (HW1.out.on hb2)
        clear hb2
        have x0 := HW2.out.p.cells 0
        have x1 := HW2.out.p.cells 1
        have c1 := HC1.out _ HW2.out.below
        go_wp2_with fail
        go_ret2
        exact ⟨by rw [HZ.out] <;> rfl, HW2.out.below⟩
      by_cases i1 : i < n
      · obtain ⟨j, rfl⟩ : ∃ j : Nat, i = j := ⟨i.toNat, by omega⟩
        have hj : j ≤ 1000000 := by omega
        have HZ : Hid (q = (((pn + manyB ((blocks.map BlR.data).take bn) + j : Nat) : Int), 0)) := Lib.hid (by rw [HQ2.out, inB_iff.2 (by omega), Int.toNat_natCast]; rfl)
        go_enter Tryd.func22, Tryd.ntmps22
        go_wp2_with fail
        refine (HC.out _ HW1.out.below).mono ?_
        rintro e w2 ⟨rfl, hb2⟩
        have HW2 := Lib.hid (HW1.out.on hb2)
        clear hb2
        have x0 := HW2.out.p.cells 0
        have x1 := HW2.out.p.cells 1
        have c1 := HC1.out _ HW2.out.below
        have dd := HD0.out _ HW2.out.below
        go_wp2_with fail
        refine (HNU.out _ HW2.out.below bn j HLT.out hj).mono ?_
        rintro e w3 ⟨rfl, hb3⟩
        have HW3 := Lib.hid (HW2.out.on hb3)
        clear hb3
        go_wp2_with fail
        go_ret2
        exact ⟨by rw [HZ.out] <;> rfl, HW3.out.below⟩
      · have HZ : Hid (q = (0, 2)) := Lib.hid (by rw [HQ2.out, inB_not.2 (by omega)]; rfl)
        go_enter Tryd.func22, Tryd.ntmps22
        go_wp2_with fail
        refine (HC.out _ HW1.out.below).mono ?_
        rintro e w2 ⟨rfl, hb2⟩
        have HW2 := Lib.hid (HW1.out.on hb2)
        clear hb2
        have x0 := HW2.out.p.cells 0
        have x1 := HW2.out.p.cells 1
        have c1 := HC1.out _ HW2.out.below
        have dd := HD0.out _ HW2.out.below
        go_wp2_with fail
        go_ret2
        exact ⟨by rw [HZ.out] <;> rfl, HW2.out.below⟩
    · have HZ : Hid (q = (0, 2)) := Lib.hid (by rw [HQ.out, inB_not.2 (by omega)]; rfl)
      go_enter Tryd.func22, Tryd.ntmps22
      go_wp2_with fail
      refine (HC.out _ HW1.out.below).mono ?_
      rintro e w2 ⟨rfl, hb2⟩
      have HW2 := Lib.hid (HW1.out.on hb2)
      clear hb2
      have x0 := HW2.out.p.cells 0
      have x1 := HW2.out.p.cells 1
      have c1 := HC1.out _ HW2.out.below
      go_wp2_with fail
      go_ret2
      exact ⟨by rw [HZ.out] <;> rfl, HW2.out.below⟩
  · have HZ : Hid (q = (0, e0)) := Lib.hid (by rw [← hq]; unfold regE; rw [if_pos (by rw [he]; exact z), he])
    have ez : (e0 != 0) = true := bne_iff_ne.2 z
    have ez2 : (e0 == 0) = false := beq_eq_false_iff_ne.2 z
    unfold PrR.val at *
    clear h hl hq he z
    obtain ⟨ta, tc, types, fa, fc, funs⟩ := p
    dsimp only at *
    go_enter Tryd.func22, Tryd.ntmps22
    go_wp2_with fail
    refine (HC.out _ HW1.out.below).mono ?_
    rintro e w2 ⟨rfl, hb2⟩
    have HW2 := Lib.hid (HW1.out.on hb2)
    clear hb2
    go_wp2_with fail
    go_ret2
    exact ⟨by rw [HZ.out] <;> rfl, HW2.out.below⟩
end Go.Proofs.YtcbhmpkginebaaaDoor
namespace Go.Proofs.YtcbhmpkginebaaaDoor
set_option linter.unusedVariables false
set_option linter.unusedSimpArgs false
open Go.ChangeShapes Go.WideShapes Go.ChangeAt Go.RowKit

def plainK (x : Ty) : Bool :=
  if x.kind = 1 then decide (x.elem = 0) && decide (x.many = 0) && decide (x.parts.length = 0)
  else if x.kind = 2 then decide (x.many = 0) && decide (x.parts.length = 0)
  else if x.kind = 4 then decide (x.elem = 0) && decide (x.many = 0)
  else if x.kind = 3 then decide (x.many = 0)
  else if x.kind = 5 then decide (x.parts.length = 0)
  else true
theorem plain_drew {w : World} {o : Obj} (n : Nat) : Below w.heap.size w ((w.alloc o).drewN n) := belowDrewN ((Below.refl _ _).alloc (Nat.le_refl _) _) n
theorem pplain_any {w : World} (r : TyR) (hl : r.parts.length ≤ 9223372036854775807) :
    Calls Tryd.prog 85 #[r.val] w fun e w' => e = .returned (.bool (plainK r.data)) ∧ Below w.heap.size w w' := by
  obtain ⟨κ, el, ma, pa, pc, parts⟩ := r
  simp only at hl
  unfold TyR.val
  by_cases e1 : κ = 1
  · subst e1
    go_enter Tryd.func85, Tryd.ntmps85
    go_wp2_with fail
    go_quiet (fail)
    go_wp2_with fail
    all_goals go_ret
    all_goals refine ⟨ret_bool ?_, plain_drew _⟩
    all_goals show _ = (decide (el = 0) && decide (ma = 0) && decide (parts.length = 0))
    all_goals (first | rfl | (rw [Bool.eq_iff_iff]; simp only [Bool.and_eq_true, Bool.or_eq_true, decide_eq_true_eq, beq_iff_eq, bne_iff_ne, Bool.not_eq_true', beq_eq_false_iff_ne, decide_eq_false_iff_not, Bool.false_eq_true, false_iff, true_iff, iff_false, iff_true, true_and, and_true, false_and, and_false, true_or, or_true, false_or, or_false, ne_eq]; first | done | omega | (intros; omega)) | (rw [Bool.eq_iff_iff]; simp [*]; done) | (rw [Bool.eq_iff_iff]; simp [*]; omega))
  by_cases e2 : κ = 2
  · subst e2
    go_enter Tryd.func85, Tryd.ntmps85
    go_wp2_with fail
    go_quiet (fail)
    go_wp2_with fail
    all_goals go_ret
    all_goals refine ⟨ret_bool ?_, plain_drew _⟩
    all_goals show _ = (decide (ma = 0) && decide (parts.length = 0))
    all_goals (first | rfl | (rw [Bool.eq_iff_iff]; simp only [Bool.and_eq_true, Bool.or_eq_true, decide_eq_true_eq, beq_iff_eq, bne_iff_ne, Bool.not_eq_true', beq_eq_false_iff_ne, decide_eq_false_iff_not, Bool.false_eq_true, false_iff, true_iff, iff_false, iff_true, true_and, and_true, false_and, and_false, true_or, or_true, false_or, or_false, ne_eq]; first | done | omega | (intros; omega)) | (rw [Bool.eq_iff_iff]; simp [*]; done) | (rw [Bool.eq_iff_iff]; simp [*]; omega))
  by_cases e4 : κ = 4
  · subst e4
    go_enter Tryd.func85, Tryd.ntmps85
    go_wp2_with fail
    all_goals go_ret
    all_goals refine ⟨ret_bool ?_, (Below.refl _ _).alloc (Nat.le_refl _) _⟩
    all_goals show _ = (decide (el = 0) && decide (ma = 0))
    all_goals (first | rfl | (rw [Bool.eq_iff_iff]; simp only [Bool.and_eq_true, Bool.or_eq_true, decide_eq_true_eq, beq_iff_eq, bne_iff_ne, Bool.not_eq_true', beq_eq_false_iff_ne, decide_eq_false_iff_not, Bool.false_eq_true, false_iff, true_iff, iff_false, iff_true, true_and, and_true, false_and, and_false, true_or, or_true, false_or, or_false, ne_eq]; first | done | omega | (intros; omega)) | (rw [Bool.eq_iff_iff]; simp [*]; done) | (rw [Bool.eq_iff_iff]; simp [*]; omega))
  by_cases e3 : κ = 3
  · subst e3
    go_enter Tryd.func85, Tryd.ntmps85
    go_wp2_with fail
    all_goals go_ret
    all_goals refine ⟨ret_bool ?_, (Below.refl _ _).alloc (Nat.le_refl _) _⟩
    all_goals show _ = decide (ma = 0)
    all_goals (first | rfl | (rw [Bool.eq_iff_iff]; simp only [Bool.and_eq_true, Bool.or_eq_true, decide_eq_true_eq, beq_iff_eq, bne_iff_ne, Bool.not_eq_true', beq_eq_false_iff_ne, decide_eq_false_iff_not, Bool.false_eq_true, false_iff, true_iff, iff_false, iff_true, true_and, and_true, false_and, and_false, true_or, or_true, false_or, or_false, ne_eq]; first | done | omega | (intros; omega)) | (rw [Bool.eq_iff_iff]; simp [*]; done) | (rw [Bool.eq_iff_iff]; simp [*]; omega))
  by_cases e5 : κ = 5
  · subst e5
    go_enter Tryd.func85, Tryd.ntmps85
    go_wp2_with fail
    all_goals go_ret
    all_goals refine ⟨ret_bool ?_, (Below.refl _ _).alloc (Nat.le_refl _) _⟩
    all_goals show _ = decide (parts.length = 0)
    all_goals (first | rfl | (rw [Bool.eq_iff_iff]; simp only [Bool.and_eq_true, Bool.or_eq_true, decide_eq_true_eq, beq_iff_eq, bne_iff_ne, Bool.not_eq_true', beq_eq_false_iff_ne, decide_eq_false_iff_not, Bool.false_eq_true, false_iff, true_iff, iff_false, iff_true, true_and, and_true, false_and, and_false, true_or, or_true, false_or, or_false, ne_eq]; first | done | omega | (intros; omega)) | (rw [Bool.eq_iff_iff]; simp [*]; done) | (rw [Bool.eq_iff_iff]; simp [*]; omega))
  have HO : Hid (plainK ⟨κ, el, ma, parts⟩ = true) := Lib.hid (by unfold plainK; rw [if_neg e1, if_neg e2, if_neg e4, if_neg e3, if_neg e5])
  go_enter Tryd.func85, Tryd.ntmps85
  go_wp2_with fail
  all_goals go_ret
  all_goals exact ⟨ret_bool HO.out.symm, (Below.refl _ _).alloc (Nat.le_refl _) _⟩

theorem pscalar_any {w : World} (r : TyR) :
    Calls Tryd.prog 89 #[r.val] w fun e w' => e = .returned (.bool (scalK r.kind)) ∧ Below w.heap.size w w' := by
  obtain ⟨κ, el, ma, pa, pc, parts⟩ := r
  unfold TyR.val
  go_enter Tryd.func89, Tryd.ntmps89
  go_wp2_with fail
  all_goals go_ret
  all_goals refine ⟨ret_bool ?_, (Below.refl _ _).alloc (Nat.le_refl _) _⟩
  all_goals show _ = (κ == 1 || κ == 2 || κ == 3)
  all_goals (first | rfl | (rw [Bool.eq_iff_iff]; simp only [Bool.and_eq_true, Bool.or_eq_true, decide_eq_true_eq, beq_iff_eq, bne_iff_ne, Bool.not_eq_true', beq_eq_false_iff_ne, decide_eq_false_iff_not, Bool.false_eq_true, false_iff, true_iff, iff_false, iff_true, true_and, and_true, false_and, and_false, true_or, or_true, false_or, or_false, ne_eq]; first | done | omega | (intros; omega)) | (rw [Bool.eq_iff_iff]; simp [*]; done) | (rw [Bool.eq_iff_iff]; simp [*]; omega))

/-- A function of the text is entered as it is called. -/
def Enters (F : FuncId) : Prop := ∀ args w, (callFunc F args).run Tryd.prog w = .ok (.enter F args) w
theorem enters_there : Enters 99 := fun _ _ => by kernel_rfl
theorem enters_may : Enters 88 := fun _ _ => by kernel_rfl
/-- A function value that answers by a predicate, wherever a world is as w was. -/
structure AnswersBy (w : World) (F : FuncId) (cap : Array Value) (xs : List Int) (P : Int → Bool) : Prop where
  enters : Enters F
  calls : ∀ W x, Below w.heap.size w W → x ∈ xs → Calls Tryd.prog F (#[.int .i64 x] ++ cap) W fun e w' => e = .returned (.bool (P x)) ∧ Below W.heap.size W w'
def SomeIndex (b : Bool) (w : World) (e : Ending) (w' : World) : Prop := ∃ r : Int, e = .returned (.int .i64 r) ∧ decide (0 ≤ r) = b ∧ Below w.heap.size w w'
theorem any_of_none {P : Int → Bool} {xs : List Int} {k : Nat} (h : AllTo (fun x => !P x) xs k) (hk : xs.length ≤ k) : xs.any P = false := by
  have := h.done hk
  rw [List.any_eq_not_all_not, this]; rfl
theorem any_of_some {P : Int → Bool} {xs : List Int} {k : Nat} (hk : k < xs.length) (hp : P (xs.getD k 0) = true) : xs.any P = true := by
  rw [List.any_eq_true]
  exact ⟨_, mem_getD (d := 0) hk, hp⟩
theorem indexFunc_any {w : World} {lo : Nat} {A : Option Addr} {c : Nat} {xs : List Int} (hh : Hdr A xs.length c) (hx : IntsAt w lo w.heap.size A xs) (F : FuncId) (cap : Array Value) (P : Int → Bool) (hf : AnswersBy w F cap xs P) :
    Calls Tryd.prog 100 #[.slice A xs.length c, .func (.func F) #[] cap] w (SomeIndex (xs.any P) w) := by
  have hl := Nat.le_trans hh.fit hh.cap
  unfold maxLen at hl
  have HX := Lib.hid hx
  have HF := Lib.hid hf
  have eg := hf.enters
  unfold Enters at eg
  clear hx hh hf
  go_enter Tryd.func100, Tryd.ntmps100
  go_wp2_with fail
  go_loopw [8] (fun i wr => ∃ k : Nat, k ≤ xs.length ∧ i = .int .i64 k ∧ AllTo (fun x => !P x) xs k ∧ Below w.heap.size w wr) (fun i _ => xs.length - (intOf i).toNat)
  case atStart => exact ⟨0, Nat.zero_le _, rfl, AllTo.zero _ _, Below.refl _ _⟩
  case round =>
    obtain ⟨k, hk, rfl, hall, hbel⟩ := hrel
    have HA := Lib.hid hall
    have HB := Lib.hid hbel
    clear hall hbel
    by_cases hlt : k < xs.length
    · obtain ⟨b, off, x, rfl, hcell, HE⟩ := (HX.out.keep HB.out).cell hlt
      have hxm : x ∈ xs := by have := mem_getD (d := (0 : Int)) hlt; rwa [HE.out] at this
      have HC := Lib.hid (HF.out.calls wr x HB.out hxm)
      clear hxm
      cases hp : P x with
      | true =>
        rw [hp] at HC
        have HP := Lib.hid hp
        clear hp
        go_wp2_with fail
        refine HC.out.mono ?_
        rintro e w1 ⟨rfl, hb1⟩
        have HB1 := Lib.hid (HB.out.trans (hb1.mono HB.out.size))
        clear hb1
        go_wp2_with fail
        go_ret
        exact ⟨_, rfl, by rw [any_of_some hlt (by rw [HE.out]; exact HP.out)]; simp, HB1.out⟩
      | false =>
        rw [hp] at HC
        have HP := Lib.hid hp
        clear hp
        go_wp2_with fail
        refine HC.out.mono ?_
        rintro e w1 ⟨rfl, hb1⟩
        have HB1 := Lib.hid (HB.out.trans (hb1.mono HB.out.size))
        clear hb1
        go_wp2_with fail
        go_roundw
        case rel => exact ⟨k + 1, by omega, by go_num, HA.out.step (d := 0) hlt (by rw [HE.out, HP.out]; rfl), HB1.out⟩
        case measure => simp [intOf]; omega
    · go_wp2_with fail
      go_ret
      exact ⟨_, rfl, by rw [any_of_none HA.out (by omega)]; rfl, HB.out⟩
theorem containsFunc_any {w : World} {lo : Nat} {A : Option Addr} {c : Nat} {xs : List Int} (hh : Hdr A xs.length c) (hx : IntsAt w lo w.heap.size A xs) (F : FuncId) (cap : Array Value) (P : Int → Bool) (hf : AnswersBy w F cap xs P) :
    Calls Tryd.prog 87 #[.slice A xs.length c, .func (.func F) #[] cap] w fun e w' => e = .returned (.bool (xs.any P)) ∧ Below w.heap.size w w' := by
  have HI := Lib.hid (indexFunc_any hh hx F cap P hf)
  clear hh hx hf
  go_enter Tryd.func87, Tryd.ntmps87
  go_wp2_with fail
  refine HI.out.mono ?_
  rintro e w1 ⟨r, rfl, hr, hb1⟩
  have HR := Lib.hid hr
  have HB := Lib.hid hb1
  clear hr hb1
  go_wp2_with fail
  go_ret
  exact ⟨ret_bool HR.out, HB.out⟩

/-- there's predicate. -/
theorem there1_any {w : World} {g : Nat} (x m : Int) (hc : w.cell? ⟨g, 0, none⟩ = some (.int .i64 m)) :
    Calls Tryd.prog 99 #[.int .i64 x, .pointer (some ⟨g, 0, none⟩)] w fun e w' => e = .returned (.bool (!lowP m x)) ∧ Below w.heap.size w w' := by
  go_enter Tryd.func99, Tryd.ntmps99
  go_wp2_with fail
  all_goals go_ret
  all_goals refine ⟨ret_bool ?_, Below.refl _ _⟩
  all_goals unfold lowP
  all_goals (first | rfl | (rw [Bool.eq_iff_iff]; simp only [Bool.and_eq_true, Bool.or_eq_true, decide_eq_true_eq, beq_iff_eq, bne_iff_ne, Bool.not_eq_true', beq_eq_false_iff_ne, decide_eq_false_iff_not, Bool.false_eq_true, false_iff, true_iff, iff_false, iff_true, true_and, and_true, false_and, and_false, true_or, or_true, false_or, or_false, ne_eq]; first | done | omega | (intros; omega)) | (rw [Bool.eq_iff_iff]; simp [*]; done) | (rw [Bool.eq_iff_iff]; simp [*]; omega))
theorem there_any {w : World} {lo : Nat} {A : Option Addr} {c : Nat} {xs : List Int} (hh : Hdr A xs.length c) (hx : IntsAt w lo w.heap.size A xs) (m : Int) :
    Calls Tryd.prog 86 #[.int .i64 m, .slice A xs.length c] w fun e w' => e = .returned (.bool (lowerB xs m)) ∧ Below w.heap.size w w' := by
  have hb0 : Below w.heap.size w (w.alloc (.cells #[.int .i64 m] 3)) := (Below.refl _ _).alloc (Nat.le_refl _) _
  have hA : AnswersBy (w.alloc (.cells #[.int .i64 m] 3)) 99 #[.pointer (some ⟨w.heap.size, 0, none⟩)] xs (fun x => !lowP m x) := by
    refine ⟨enters_there, ?_⟩
    intro W x hb _
    exact there1_any x m (((Blk.new w 3 #[.int .i64 m]).beneath hb).cells 0)
  have HC := Lib.hid (containsFunc_any hh ((hx.keep hb0).more (Nat.le_refl _) hb0.size) _ _ _ hA)
  have HB := Lib.hid hb0
  clear hh hx hb0 hA
  have HL : Hid (xs.any (fun x => !lowP m x) = !lowerB xs m) := Lib.hid (by unfold lowerB; rw [List.any_eq_not_all_not]; simp [lowP])
  go_enter Tryd.func86, Tryd.ntmps86
  go_wp2_with fail
  refine HC.out.mono ?_
  rintro e w1 ⟨rfl, hb1⟩
  have HB1 := Lib.hid (HB.out.trans (hb1.mono HB.out.size))
  clear hb1
  go_wp2_with fail
  go_ret
  exact ⟨ret_bool (by rw [HL.out, Bool.not_not]), HB1.out⟩
end Go.Proofs.YtcbhmpkginebaaaDoor
namespace Go.Proofs.YtcbhmpkginebaaaDoor
set_option linter.unusedVariables false
set_option linter.unusedSimpArgs false
open Go.ChangeShapes Go.WideShapes Go.ChangeAt Go.RowKit

theorem sum_take (xs : List Int) {k : Nat} (h : k < xs.length) : (xs.take (k + 1)).sum = (xs.take k).sum + xs.getD k 0 := by
  rw [take_succ_getD (d := 0) h, List.sum_append]; simp
theorem sum_bd : ∀ (xs : List Int) (k : Nat), (∀ x ∈ xs, 0 ≤ x ∧ x ≤ 512) → 0 ≤ (xs.take k).sum ∧ (xs.take k).sum ≤ k * 512
  | [], k, _ => by simp; omega
  | x :: xs, 0, _ => by simp
  | x :: xs, k + 1, h => by
    have := sum_bd xs k (fun y hy => h y (by simp [hy]))
    have := h x (by simp)
    rw [List.take_succ_cons, List.sum_cons]
    omega
theorem sum_any {w : World} {lo B : Nat} {A : Option Addr} {c : Nat} {xs : List Int} (hh : Hdr A xs.length c) (hx : IntsAt w lo B A xs) (hbd : ∀ x ∈ xs, 0 ≤ x ∧ x ≤ 512) (hlen : xs.length ≤ 1000) :
    Calls Tryd.prog 90 #[.slice A xs.length c] w fun e w' => e = .returned (.int .i64 xs.sum) ∧ w = w' := by
  have HX := Lib.hid hx
  have HBD := Lib.hid hbd
  clear hx hh hbd
  go_enter Tryd.func90, Tryd.ntmps90
  go_wp2_with fail
  go_loop [2, 7] (fun s i => ∃ k : Nat, k ≤ xs.length ∧ i = .int .i64 k ∧ s = .int .i64 (xs.take k).sum) (fun _ i => xs.length - (intOf i).toNat)
  case atStart => exact ⟨0, Nat.zero_le _, rfl, rfl⟩
  case round =>
    obtain ⟨k, hk, rfl, rfl⟩ := hrel
    obtain ⟨s0, s1⟩ := sum_bd xs k HBD.out
    by_cases hlt : k < xs.length
    · obtain ⟨b, off, x, rfl, hcell, HE⟩ := HX.out.cell hlt
      have HS := Lib.hid (sum_take xs hlt)
      have hxb := HBD.out x (by have := mem_getD (d := (0 : Int)) hlt; rwa [HE.out] at this)
      generalize (xs.take k).sum = s at s0 s1 HS
      go_wp2_with fail
      go_round
      case rel => exact ⟨k + 1, by omega, by go_num, by rw [HS.out, HE.out]⟩
      case measure => simp [intOf]; omega
    · have HS : Hid ((xs.take k).sum = xs.sum) := Lib.hid (by rw [List.take_of_length_le (by omega)])
      generalize (xs.take k).sum = s at s0 s1 HS
      go_wp2_with fail
      go_ret
      exact ⟨ret_num HS.out, rfl⟩

/-- may's predicate. -/
theorem may1_any {w : World} {g : Nat} {A : Option Addr} {c : Nat} {rows : List TyR} (h : TabIn w A c rows) {i : Nat} (hi : i < rows.length) (hc : w.cell? ⟨g, 0, none⟩ = some (.slice A rows.length c)) :
    Calls Tryd.prog 88 #[.int .i64 i, .pointer (some ⟨g, 0, none⟩)] w fun e w' => e = .returned (.bool (!plainB (tbl rows) i)) ∧ Below w.heap.size w w' := by
  have hl := h.len
  obtain ⟨b, off, rfl, hbl, c0, c1, c2, c3⟩ := (h.rows.elem hi).at_
  have HP := Lib.hid (plain_in hi)
  generalize rows.getD i default = r at c0 c1 c2 c3 HP
  go_enter Tryd.func88, Tryd.ntmps88
  go_wp2_with fail
  refine (pscalar_any r).mono ?_
  rintro e w1 ⟨rfl, hb1⟩
  go_wp2_with fail
  go_ret
  exact ⟨ret_bool (by rw [HP.out]), hb1⟩

/-- What may answers. -/
def MayAns (t : List Ty) (k : Nat) (w : World) (e : Ending) (w' : World) : Prop :=
  ∃ n : Int, e = .returned (.tuple #[.int .i64 n, .bool (goodT t k)]) ∧ (goodT t k = true → n = (ofT t k).length) ∧ Below w.heap.size w w'
theorem mayAns_of {t : List Ty} {k : Nat} {w w' : World} {e : Ending} {n : Int} {b : Bool} (he : e = .returned (.tuple #[.int .i64 n, .bool b])) (hb : b = goodT t k) (hn : b = true → n = (ofT t k).length) (hw : Below w.heap.size w w') : MayAns t k w e w' :=
  ⟨n, by rw [he, hb], by rw [← hb]; exact hn, hw⟩
/-- How many cells lower types have. -/
def sizesT (t : List Ty) (k : Nat) : List Int := (List.range k).map fun j => ((ofT t j).length : Int)
theorem sizes_len (t : List Ty) (k : Nat) : (sizesT t k).length = k := by simp [sizesT]
theorem sizes_at {t : List Ty} {k j : Nat} (h : j < k) : (sizesT t k).getD j 0 = (ofT t j).length := by
  unfold sizesT
  simp [List.getD, h]
structure MayIn (w : World) (A : Option Addr) (c : Nat) (rows : List TyR) (k : Nat) (S : Option Addr) (cs : Nat) : Prop where
  tab : TabIn w A c rows
  lt : k < rows.length
  good : allGood (tbl rows) k = true
  hdr : Hdr S k cs
  sizes : IntsAt w 0 w.heap.size S (sizesT (tbl rows) k)
  few : ∀ r ∈ rows, r.parts.length ≤ 1000
theorem good_scalar {t : List Ty} {k : Nat} (h4 : (t.getD k default).kind ≠ 4) (h5 : (t.getD k default).kind ≠ 5) : goodT t k = mayT t k ∧ ((1 : Int) = (ofT t k).length) := by
  unfold goodT
  rw [of_scalar h4 h5]
  exact ⟨by simp, rfl⟩

theorem lowerB_one (x m : Int) : lowerB [x] m = (decide (0 ≤ x) && decide (x < m)) := by simp [lowerB]
set_option maxHeartbeats 800000 in
theorem may12_any {w : World} {A : Option Addr} {c : Nat} {rows : List TyR} {k : Nat} {S : Option Addr} {cs : Nat} (h : MayIn w A c rows k S cs) (hκ : (rows.getD k default).kind = 1 ∨ (rows.getD k default).kind = 2) :
    Calls Tryd.prog 70 #[.slice A rows.length c, .int .i64 k, .slice S k cs] w (MayAns (tbl rows) k w) := by
  have hl := h.tab.len
  have hk := h.lt
  obtain ⟨b, off, rfl, hbl, c0, c1, c2, c3⟩ := (h.tab.rows.elem hk).at_
  have HM : Hid (mayT (tbl rows) k = mayX (tbl rows) (rows.getD k default).data k) := Lib.hid (by unfold mayT; rw [tbl_at hk])
  have HG := Lib.hid (good_scalar (t := tbl rows) (k := k) (by rw [tbl_at hk]; show (rows.getD k default).kind ≠ 4; omega) (by rw [tbl_at hk]; show (rows.getD k default).kind ≠ 5; omega))
  have hrk := h.tab.row hk
  have HI := Lib.hid h
  clear h
  generalize rows.getD k default = r at c0 c1 c2 c3 HM hrk hκ
  obtain ⟨κ, el, ma, pa, pc, parts⟩ := r
  simp only at c0 c1 c2 c3 hκ
  have hlp := Nat.le_trans hrk.hdr.fit hrk.hdr.cap
  unfold maxLen at hlp
  simp only at hlp
  have HK := Lib.hid hrk
  clear hrk
  rcases hκ with e1 | e2
  · subst e1
    go_enter Tryd.func70, Tryd.ntmps70
    go_wp2_with fail
    refine (pplain_any ⟨1, el, ma, pa, pc, parts⟩ (by simpa using hlp)).mono ?_
    rintro e w1 ⟨rfl, hb1⟩
    have kx : Blk w1 (w.heap.size + 1) 78 #[.int .u8 1, .int .i64 el, .int .i64 ma, .slice pa parts.length pc] := (Blk.new2 w _ _ _).beneath hb1
    have k0 := kx.cells 0
    have HB := Lib.hid (below_new2 hb1)
    have hz := hb1.size
    simp only [World.size_alloc] at hz
    clear kx hb1
    obtain ⟨pb, hpb⟩ : ∃ pb, plainK (TyR.data ⟨1, el, ma, pa, pc, parts⟩) = pb := ⟨_, rfl⟩
    rw [hpb]
    have HP := Lib.hid hpb
    clear hpb
    go_wp2_with fail
    all_goals go_ret2
    all_goals refine mayAns_of rfl ?_ (fun _ => HG.out.2) HB.out
    all_goals rw [HG.out.1, HM.out]
    all_goals show _ = (decide (el = 0) && (decide (ma = 0) && decide (parts.length = 0)))
    all_goals rw [← Bool.and_assoc, show (decide (el = 0) && decide (ma = 0) && decide (parts.length = 0)) = pb from HP.out]
    all_goals first | rfl | (simp [*]; done)
  · subst e2
    go_enter Tryd.func70, Tryd.ntmps70
    go_wp2_with fail
    refine (pplain_any ⟨2, el, ma, pa, pc, parts⟩ (by simpa using hlp)).mono ?_
    rintro e w1 ⟨rfl, hb1⟩
    have kx : Blk w1 (w.heap.size + 1) 78 #[.int .u8 2, .int .i64 el, .int .i64 ma, .slice pa parts.length pc] := (Blk.new2 w _ _ _).beneath hb1
    have kb : Blk w1 w.heap.size 32 #[.slice (some ⟨b, off, none⟩) rows.length c] := ((Blk.new w _ _).alloc _).beneath hb1
    have k0 := kx.cells 0
    have k1 := kx.cells 1
    have kt := kb.cells 0
    have HB := Lib.hid (below_new2 hb1)
    have hz := hb1.size
    simp only [World.size_alloc] at hz
    clear kx kb hb1
    obtain ⟨pb, hpb⟩ : ∃ pb, plainK (TyR.data ⟨2, el, ma, pa, pc, parts⟩) = pb := ⟨_, rfl⟩
    rw [hpb]
    have HP := Lib.hid hpb
    clear hpb
    cases pb with
    | false =>
      go_wp2_with fail
      all_goals go_ret2
      all_goals refine mayAns_of rfl ?_ (fun h => by cases h) HB.out
      all_goals rw [HG.out.1, HM.out]
      all_goals show _ = (decide (0 ≤ el) && (decide (el < (tbl rows).length) && (decide (ma = 0) && decide (parts.length = 0))))
      all_goals rw [show (decide (ma = 0) && decide (parts.length = 0)) = false from HP.out]
      all_goals simp
    | true =>
      have HO : Hid (∀ w2 : World, IntsAt (w2.alloc (.cells #[.int .i64 el] 3)) 0 (w2.alloc (.cells #[.int .i64 el] 3)).heap.size (some ⟨w2.heap.size, 0, none⟩) [el] ∧ Hdr (some ⟨w2.heap.size, 0, none⟩) 1 1) := Lib.hid fun w2 => (own_hdr (OwnInts.one w2 0 w2.heap.size el (Nat.zero_le _) rfl)).symm
      go_wp2_with fail
      refine (there_any (xs := [el]) (HO.out _).2 (HO.out _).1 rows.length).mono ?_
      rintro e w2 ⟨rfl, hb2⟩
      have HB2 := Lib.hid (HB.out.trans ((below_new hb2).mono HB.out.size))
      clear hb2
      go_wp2_with fail
      all_goals go_ret2
      all_goals refine mayAns_of rfl ?_ (fun _ => HG.out.2) HB2.out
      all_goals rw [HG.out.1, HM.out]
      all_goals show _ = (decide (0 ≤ el) && (decide (el < (tbl rows).length) && (decide (ma = 0) && decide (parts.length = 0))))
      all_goals rw [show (decide (ma = 0) && decide (parts.length = 0)) = true from HP.out, tbl_len, ← Bool.and_assoc, Bool.and_true, ← lowerB_one]
      all_goals first | rfl | (simp [*]; done)
end Go.Proofs.YtcbhmpkginebaaaDoor
