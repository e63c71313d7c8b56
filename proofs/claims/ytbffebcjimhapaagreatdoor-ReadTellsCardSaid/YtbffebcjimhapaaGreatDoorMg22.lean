/-
  The reference's word for shapes: may an instruction be.
-/
import Derived.Test.YtbffebcjimhapaaGreatDoorMg7
import Derived.Test.YtbffebcjimhapaaGreatDoorMg19
import Derived.Test.YtbffebcjimhapaaGreatDoorMg21
import Derived.Deep.DeepCutAuto
namespace Go.Proofs.YtbffebcjimhapaaGreatDoor
set_option linter.unusedVariables false
set_option linter.unusedSimpArgs false
open Go.ChangeShapes Go.WideShapes Go.ChangeAt Go.RowKit
structure Boxes (w0 w : World) (g1 g2 : Nat) (p x : Array Value) : Prop where
 p : Blk w g1 25 p
 x : Blk w g2 74 x
 below : Below w0.heap.size w0 w
theorem Boxes.on {w0 w w' : World} {g1 g2 : Nat} {p x : Array Value} (h : Boxes w0 w g1 g2 p x) (hb : Below w.heap.size w w') : Boxes w0 w' g1 g2 p x := ⟨h.p.beneath hb, h.x.beneath hb, h.below.trans (hb.mono h.below.size)⟩
theorem rhasa_is {op : Nat} {b : Bool} (h : hasT op 0 = b) (w : World) : Calls Tryz.prog 148 #[.int .u8 op] w fun e w' => e = .returned (.bool b) ∧ Below w.heap.size w w' := h ▸ rhasa_any op w
theorem rtwo_is {op : Nat} {b : Bool} (h : hasT op 1 = b) (w : World) : Calls Tryz.prog 149 #[.int .u8 op] w fun e w' => e = .returned (.bool b) ∧ Below w.heap.size w w' := h ▸ rtwo_any op w
theorem rargs_is {op : Nat} {b : Bool} (h : hasT op 3 = b) (w : World) : Calls Tryz.prog 150 #[.int .u8 op] w fun e w' => e = .returned (.bool b) ∧ Below w.heap.size w w' := h ▸ rargs_any op w
theorem ranswers_is {op : Nat} {b : Bool} (h : hasT op 5 = b) (w : World) : Calls Tryz.prog 122 #[.int .u8 op] w fun e w' => e = .returned (.bool b) ∧ Below w.heap.size w w' := h ▸ ranswers_any op w
def zeroB (b0 b1 b3 : Bool) (a b : Int) (n : Nat) : Bool := (b0 || decide (a = 0)) && ((b1 || decide (b = 0)) && (b3 || decide (n = 0)))
def typeB (b5 : Bool) (ty types : Int) : Bool := if b5 then inB ty types else decide (ty = 0)
def fromB (op n : Nat) (from_ : List Int) (blocks : Int) : Bool := if op = 22 then decide (from_.length = n) && (decide (1 ≤ from_.length ∧ from_.length ≤ 16) && allB from_ blocks) else decide (from_.length = 0) && decide (n ≤ 4)
theorem ins_split (x : PIns) (types funs regs blocks : Int) {b0 b1 b3 b5 : Bool} (h0 : hasT x.op 0 = b0) (h1 : hasT x.op 1 = b1) (h3 : hasT x.op 3 = b3) (h5 : hasT x.op 5 = b5) :
 insB x types funs regs blocks = ((decide (1 ≤ x.op ∧ x.op ≤ 22) && (allB (usesL b0 b1 b3 x.a x.b x.args) regs && mayNB x funs)) && (zeroB b0 b1 b3 x.a x.b x.args.length && (typeB b5 x.ty types && fromB x.op x.args.length x.from_ blocks))) := by
 unfold insB mayNB zeroB typeB fromB
 rw [h0, h1, h3, h5]
 have hu : allB (usesL b0 b1 b3 x.a x.b x.args) regs = ((!b0 || inB x.a regs) && ((!b1 || inB x.b regs) && (!b3 || allB x.args regs))) := by
  unfold usesL allB
  rw [List.all_append, List.all_append, Bool.and_assoc]
  cases b0 <;> cases b1 <;> cases b3 <;> simp
 rw [hu]
 have ha : b3 = false → x.args.length = 0 → allB x.args regs = true := fun _ e => by rw [List.eq_nil_of_length_eq_zero e]; rfl
 generalize (if x.op = 22 then decide (x.from_.length = x.args.length) && (decide (1 ≤ x.from_.length ∧ x.from_.length ≤ 16) && allB x.from_ blocks) else decide (x.from_.length = 0) && decide (x.args.length ≤ 4)) = F
 generalize (if b5 = true then inB x.ty types else decide (x.ty = 0)) = T
 generalize numB x funs = N
 generalize decide (1 ≤ x.op ∧ x.op ≤ 22) = O
 generalize inB x.a regs = A
 generalize inB x.b regs = B
 generalize allB x.args regs = G at *
 generalize (hasT x.op 2 || decide (x.n = 0)) = M
 generalize decide (x.a = 0) = Z
 generalize decide (x.b = 0) = Y
 cases b3 with
 | true => cases O <;> cases A <;> cases B <;> cases G <;> cases M <;> cases N <;> cases T <;> cases F <;> simp [Bool.and_assoc]
 | false =>
   by_cases e : x.args.length = 0
   · rw [ha rfl e, decide_eq_true e]
     cases O <;> cases A <;> cases B <;> cases M <;> cases N <;> cases T <;> cases F <;> simp [Bool.and_assoc]
   · rw [decide_eq_false e]
     simp
set_option maxRecDepth 100000 in
set_option maxHeartbeats 1600000 in
theorem rmayIns_any {w : World} {p : PrR} (h : ProgIn w p) (x : InR) (hx : x.Ok w) (hl : x.args.length ≤ 1000) (regs many : Int) :
 Calls Tryz.prog 111 #[p.val, x.val, .int .i64 regs, .int .i64 many] w fun e w' => e = .returned (.bool (insB x.data p.types.length p.funs.length regs many)) ∧ Below w.heap.size w w' := by
 have hpl := h.types.len
 have hop := hx.op
 have HX := Lib.hid hx
 have HP := Lib.hid h
 have HMN := Lib.hid (fun W (hb : Below w.heap.size w W) => rmayN_any (h.on hb) x)
 obtain ⟨r, hr⟩ : ∃ b, insB x.data p.types.length p.funs.length regs many = b := ⟨_, rfl⟩
 obtain ⟨mn, hmn⟩ : ∃ b, mayNB x.data p.funs.length = b := ⟨_, rfl⟩
 rw [hr]
 rw [hmn] at HMN
 unfold PrR.val InR.val at *
 obtain ⟨ta, tc, types, fa, fc, funs⟩ := p
 obtain ⟨op, ty, a, bb, n, aa, ac, args, xa, xc, from_⟩ := x
 dsimp only at *
 obtain ⟨b0, h0⟩ : ∃ b, hasT op 0 = b := ⟨_, rfl⟩
 obtain ⟨b1, h1⟩ : ∃ b, hasT op 1 = b := ⟨_, rfl⟩
 obtain ⟨b3, h3⟩ : ∃ b, hasT op 3 = b := ⟨_, rfl⟩
 obtain ⟨b5, h5⟩ : ∃ b, hasT op 5 = b := ⟨_, rfl⟩
 obtain ⟨cu, hcu⟩ : ∃ b, allB (usesL b0 b1 b3 a bb args) regs = b := ⟨_, rfl⟩
 have hr2 : r = ((decide (1 ≤ op ∧ op ≤ 22) && (cu && mn)) && (zeroB b0 b1 b3 a bb args.length && (typeB b5 ty types.length && fromB op args.length from_ many))) := by
  rw [← hr, ← hmn, ← hcu]
  exact ins_split (⟨op, ty, a, bb, n, args, from_⟩ : PIns) types.length funs.length regs many h0 h1 h3 h5
 obtain ⟨s1, hs1⟩ : ∃ b, (decide (1 ≤ op ∧ op ≤ 22) && (cu && mn)) = b := ⟨_, rfl⟩
 rw [hs1] at hr2
 have HR := Lib.hid hr2
 have HS1 := Lib.hid hs1
 clear hs1 hr2
 have HN := Lib.hid hmn
 have HCU := Lib.hid hcu
 have H0 := Lib.hid h0
 have H1 := Lib.hid h1
 have H3 := Lib.hid h3
 have H5 := Lib.hid h5
 have HAL := Lib.hid hl
 clear hx h hr hmn hcu h0 h1 h3 h5 hl
 have hopz : (op : Int) ≤ 255 := by omega
 have HW1 := Lib.hid (show Boxes w ((w.alloc (.cells #[.slice ta types.length tc, .slice fa funs.length fc] 25)).alloc (.cells #[.int .u8 op, .int .i64 ty, .int .i64 a, .int .i64 bb, .int .i64 n, .slice aa args.length ac, .slice xa from_.length xc] 74)) w.heap.size (w.heap.size + 1) #[.slice ta types.length tc, .slice fa funs.length fc] #[.int .u8 op, .int .i64 ty, .int .i64 a, .int .i64 bb, .int .i64 n, .slice aa args.length ac, .slice xa from_.length xc] from
  ⟨(Blk.new w _ _).beneath ((Below.refl _ _).alloc (Nat.le_refl _) _), heap_at _ _ _ (World.size_alloc _ _), ((Below.refl _ _).alloc (Nat.le_refl _) _).alloc (by rw [World.size_alloc]; omega) _⟩)
 go_enter Tryz.func111, Tryz.ntmps111
 go_upto_region 1 with fail
 go_cut [29] (fun c wx => c = .bool (!s1) ∧ Hid (Boxes w wx w.heap.size (w.heap.size + 1) #[.slice ta types.length tc, .slice fa funs.length fc] #[.int .u8 op, .int .i64 ty, .int .i64 a, .int .i64 bb, .int .i64 n, .slice aa args.length ac, .slice xa from_.length xc]))
 case first =>
  by_cases o1 : op < 1
  · have o1z : (op : Int) < 1 := by omega
    have HQ : Hid (s1 = false) := Lib.hid (by rw [← HS1.out]; simp; omega)
    clear o1
    go_wp2_with fail
    go_meet
    exact ⟨by rw [HQ.out]; rfl, HW1⟩
  have o1z : ¬ (op : Int) < 1 := by omega
  by_cases o2 : 22 < op
  · have o2z : (22 : Int) < op := by omega
    have HQ : Hid (s1 = false) := Lib.hid (by rw [← HS1.out]; simp; omega)
    clear o1 o2
    go_wp2_with fail
    go_meet
    exact ⟨by rw [HQ.out]; rfl, HW1⟩
  have o2z : ¬ (22 : Int) < op := by omega
  have HQ : Hid (s1 = (cu && mn)) := Lib.hid (by rw [← HS1.out, decide_eq_true (show 1 ≤ op ∧ op ≤ 22 by omega)]; rfl)
  clear o1 o2
  go_wp2_with fail
  refine (ruses_any H0.out H1.out H3.out ty a bb n HX.out.ahdr (HX.out.args.up HW1.out.below) HAL.out xa from_.length xc).mono ?_
  rintro e w2 ⟨v2, rfl, hown2, hb2⟩
  obtain ⟨A2, c2, rfl, _⟩ := hown2.form
  obtain ⟨hh2, hi2⟩ := own_hdr hown2
  have HI2 := Lib.hid (And.intro hh2 (hi2.more (Nat.zero_le _) (Nat.le_refl _)))
  have HW2 := Lib.hid (HW1.out.on hb2)
  clear hown2 hb2 hh2 hi2
  have x0 := HW2.out.x.cells 0; have x1 := HW2.out.x.cells 1; have x2 := HW2.out.x.cells 2; have x3 := HW2.out.x.cells 3; have x4 := HW2.out.x.cells 4; have x5 := HW2.out.x.cells 5; have x6 := HW2.out.x.cells 6; have p0 := HW2.out.p.cells 0; have p1 := HW2.out.p.cells 1
  cases cu with
  | false =>
    go_wp2_with fail
    refine (rbelow_is HI2.out.1 HI2.out.2 regs HCU.out).mono ?_
    rintro e w3 ⟨rfl, hb3⟩
    have HW3 := Lib.hid (HW2.out.on hb3)
    clear hb3
    go_wp2_with fail
    go_meet
    exact ⟨by rw [HQ.out]; rfl, HW3⟩
  | true =>
    go_wp2_with fail
    refine (rbelow_is HI2.out.1 HI2.out.2 regs HCU.out).mono ?_
    rintro e w3 ⟨rfl, hb3⟩
    have HW3 := Lib.hid (HW2.out.on hb3)
    clear hb3 x0 x1 x2 x3 x4 x5 x6 p0 p1
    have x0 := HW3.out.x.cells 0; have x1 := HW3.out.x.cells 1; have x2 := HW3.out.x.cells 2; have x3 := HW3.out.x.cells 3; have x4 := HW3.out.x.cells 4; have x5 := HW3.out.x.cells 5; have x6 := HW3.out.x.cells 6; have p0 := HW3.out.p.cells 0; have p1 := HW3.out.p.cells 1
    go_wp2_with fail
    refine (HMN.out _ HW3.out.below).mono ?_
    rintro e w4 ⟨rfl, hb4⟩
    have HW4 := Lib.hid (HW3.out.on hb4)
    clear hb4
    go_wp2_with fail
    go_meet
    exact ⟨by rw [HQ.out, Bool.true_and], HW4⟩
 case rest =>
  obtain ⟨rfl, HW2⟩ := hcut
  cases s1 with
  | false =>
    have HZ : Hid (r = false) := Lib.hid (by rw [HR.out]; rfl)
    go_wp2_with fail
    go_ret
    exact ⟨ret_bool HZ.out.symm, HW2.out.below⟩
  | true =>
    go_upto_region 3 with fail
    obtain ⟨q, hq⟩ : ∃ q, zeroB b0 b1 b3 a bb args.length = q := ⟨_, rfl⟩
    rw [hq] at HR
    unfold zeroB at hq
    have HQ := Lib.hid hq
    clear hq
    go_cut [61] (fun c wx => c = .bool (!q) ∧ Hid (Boxes w wx w.heap.size (w.heap.size + 1) #[.slice ta types.length tc, .slice fa funs.length fc] #[.int .u8 op, .int .i64 ty, .int .i64 a, .int .i64 bb, .int .i64 n, .slice aa args.length ac, .slice xa from_.length xc]))
    case first =>
     have x0 := HW2.out.x.cells 0; have x1 := HW2.out.x.cells 1; have x2 := HW2.out.x.cells 2; have x3 := HW2.out.x.cells 3; have x4 := HW2.out.x.cells 4; have x5 := HW2.out.x.cells 5; have x6 := HW2.out.x.cells 6; have p0 := HW2.out.p.cells 0; have p1 := HW2.out.p.cells 1
     go_wp2_with fail
     refine (rhasa_is H0.out _).mono ?_
     rintro e w3 ⟨rfl, hb3⟩
     have HW3 := Lib.hid (HW2.out.on hb3)
     clear hb3 x0 x1 x2 x3 x4 x5 x6 p0 p1
     have x0 := HW3.out.x.cells 0; have x1 := HW3.out.x.cells 1; have x2 := HW3.out.x.cells 2; have x3 := HW3.out.x.cells 3; have x4 := HW3.out.x.cells 4; have x5 := HW3.out.x.cells 5; have x6 := HW3.out.x.cells 6; have p0 := HW3.out.p.cells 0; have p1 := HW3.out.p.cells 1
     cases b0 with
     | true =>
       go_wp2_with fail
       refine (rtwo_is H1.out _).mono ?_
       rintro e w4 ⟨rfl, hb4⟩
       have HW4 := Lib.hid (HW3.out.on hb4)
       clear hb4 x0 x1 x2 x3 x4 x5 x6 p0 p1
       have x0 := HW4.out.x.cells 0; have x1 := HW4.out.x.cells 1; have x2 := HW4.out.x.cells 2; have x3 := HW4.out.x.cells 3; have x4 := HW4.out.x.cells 4; have x5 := HW4.out.x.cells 5; have x6 := HW4.out.x.cells 6; have p0 := HW4.out.p.cells 0; have p1 := HW4.out.p.cells 1
       cases b1 with
       | true =>
         go_wp2_with fail
         refine (rargs_is H3.out _).mono ?_
         rintro e w5 ⟨rfl, hb5⟩
         have HW5 := Lib.hid (HW4.out.on hb5)
         clear hb5 x0 x1 x2 x3 x4 x5 x6 p0 p1
         have x0 := HW5.out.x.cells 0; have x1 := HW5.out.x.cells 1; have x2 := HW5.out.x.cells 2; have x3 := HW5.out.x.cells 3; have x4 := HW5.out.x.cells 4; have x5 := HW5.out.x.cells 5; have x6 := HW5.out.x.cells 6; have p0 := HW5.out.p.cells 0; have p1 := HW5.out.p.cells 1
         cases b3 with
         | true =>
           have hq : q = true := by rw [← HQ.out]; simp
           subst hq
           go_wp2_with fail
           go_meet
           exact ⟨rfl, HW5⟩
         | false =>
           by_cases z : args.length = 0
           · have hq : q = true := by rw [← HQ.out]; simp [z]
             have ez : (args.length : Int) = 0 := by omega
             clear z
             subst hq
             go_wp2_with fail
             go_meet
             exact ⟨rfl, HW5⟩
           · have hq : q = false := by rw [← HQ.out]; simp [z]
             have ez : 0 < (args.length : Int) := by omega
             clear z
             subst hq
             go_wp2_with fail
             go_meet
             exact ⟨congrArg Value.bool (decide_eq_true (by omega)), HW5⟩
       | false =>
         by_cases z : bb = 0
         · obtain rfl := z
           go_wp2_with fail
           refine (rargs_is H3.out _).mono ?_
           rintro e w5 ⟨rfl, hb5⟩
           have HW5 := Lib.hid (HW4.out.on hb5)
           clear hb5 x0 x1 x2 x3 x4 x5 x6 p0 p1
           have x0 := HW5.out.x.cells 0; have x1 := HW5.out.x.cells 1; have x2 := HW5.out.x.cells 2; have x3 := HW5.out.x.cells 3; have x4 := HW5.out.x.cells 4; have x5 := HW5.out.x.cells 5; have x6 := HW5.out.x.cells 6; have p0 := HW5.out.p.cells 0; have p1 := HW5.out.p.cells 1
           cases b3 with
           | true =>
             have hq : q = true := by rw [← HQ.out]; simp
             subst hq
             go_wp2_with fail
             go_meet
             exact ⟨rfl, HW5⟩
           | false =>
             by_cases z : args.length = 0
             · have hq : q = true := by rw [← HQ.out]; simp [z]
               have ez : (args.length : Int) = 0 := by omega
               clear z
               subst hq
               go_wp2_with fail
               go_meet
               exact ⟨rfl, HW5⟩
             · have hq : q = false := by rw [← HQ.out]; simp [z]
               have ez : 0 < (args.length : Int) := by omega
               clear z
               subst hq
               go_wp2_with fail
               go_meet
               exact ⟨congrArg Value.bool (decide_eq_true (by omega)), HW5⟩
         · have ez : (bb != 0) = true := bne_iff_ne.2 z
           have hq : q = false := by rw [← HQ.out]; simp [z]
           clear z
           subst hq
           go_wp2_with fail
           go_meet
           exact ⟨rfl, HW4⟩
     | false =>
       by_cases z : a = 0
       · obtain rfl := z
         go_wp2_with fail
         refine (rtwo_is H1.out _).mono ?_
         rintro e w4 ⟨rfl, hb4⟩
         have HW4 := Lib.hid (HW3.out.on hb4)
         clear hb4 x0 x1 x2 x3 x4 x5 x6 p0 p1
         have x0 := HW4.out.x.cells 0; have x1 := HW4.out.x.cells 1; have x2 := HW4.out.x.cells 2; have x3 := HW4.out.x.cells 3; have x4 := HW4.out.x.cells 4; have x5 := HW4.out.x.cells 5; have x6 := HW4.out.x.cells 6; have p0 := HW4.out.p.cells 0; have p1 := HW4.out.p.cells 1
         cases b1 with
         | true =>
           go_wp2_with fail
           refine (rargs_is H3.out _).mono ?_
           rintro e w5 ⟨rfl, hb5⟩
           have HW5 := Lib.hid (HW4.out.on hb5)
           clear hb5 x0 x1 x2 x3 x4 x5 x6 p0 p1
           have x0 := HW5.out.x.cells 0; have x1 := HW5.out.x.cells 1; have x2 := HW5.out.x.cells 2; have x3 := HW5.out.x.cells 3; have x4 := HW5.out.x.cells 4; have x5 := HW5.out.x.cells 5; have x6 := HW5.out.x.cells 6; have p0 := HW5.out.p.cells 0; have p1 := HW5.out.p.cells 1
           cases b3 with
           | true =>
             have hq : q = true := by rw [← HQ.out]; simp
             subst hq
             go_wp2_with fail
             go_meet
             exact ⟨rfl, HW5⟩
           | false =>
             by_cases z : args.length = 0
             · have hq : q = true := by rw [← HQ.out]; simp [z]
               have ez : (args.length : Int) = 0 := by omega
               clear z
               subst hq
               go_wp2_with fail
               go_meet
               exact ⟨rfl, HW5⟩
             · have hq : q = false := by rw [← HQ.out]; simp [z]
               have ez : 0 < (args.length : Int) := by omega
               clear z
               subst hq
               go_wp2_with fail
               go_meet
               exact ⟨congrArg Value.bool (decide_eq_true (by omega)), HW5⟩
         | false =>
           by_cases z : bb = 0
           · obtain rfl := z
             go_wp2_with fail
             refine (rargs_is H3.out _).mono ?_
             rintro e w5 ⟨rfl, hb5⟩
             have HW5 := Lib.hid (HW4.out.on hb5)
             clear hb5 x0 x1 x2 x3 x4 x5 x6 p0 p1
             have x0 := HW5.out.x.cells 0; have x1 := HW5.out.x.cells 1; have x2 := HW5.out.x.cells 2; have x3 := HW5.out.x.cells 3; have x4 := HW5.out.x.cells 4; have x5 := HW5.out.x.cells 5; have x6 := HW5.out.x.cells 6; have p0 := HW5.out.p.cells 0; have p1 := HW5.out.p.cells 1
             cases b3 with
             | true =>
               have hq : q = true := by rw [← HQ.out]; simp
               subst hq
               go_wp2_with fail
               go_meet
               exact ⟨rfl, HW5⟩
             | false =>
               by_cases z : args.length = 0
               · have hq : q = true := by rw [← HQ.out]; simp [z]
                 have ez : (args.length : Int) = 0 := by omega
                 clear z
                 subst hq
                 go_wp2_with fail
                 go_meet
                 exact ⟨rfl, HW5⟩
               · have hq : q = false := by rw [← HQ.out]; simp [z]
                 have ez : 0 < (args.length : Int) := by omega
                 clear z
                 subst hq
                 go_wp2_with fail
                 go_meet
                 exact ⟨congrArg Value.bool (decide_eq_true (by omega)), HW5⟩
           · have ez : (bb != 0) = true := bne_iff_ne.2 z
             have hq : q = false := by rw [← HQ.out]; simp [z]
             clear z
             subst hq
             go_wp2_with fail
             go_meet
             exact ⟨rfl, HW4⟩
       · have ez : (a != 0) = true := bne_iff_ne.2 z
         have hq : q = false := by rw [← HQ.out]; simp [z]
         clear z
         subst hq
         go_wp2_with fail
         go_meet
         exact ⟨rfl, HW3⟩
    case rest =>
     clear HQ HW2
     obtain ⟨rfl, HW2⟩ := hcut
     cases q with
     | false =>
       have HZ : Hid (r = false) := Lib.hid (by rw [HR.out]; rfl)
       go_wp2_with fail
       go_ret
       exact ⟨ret_bool HZ.out.symm, HW2.out.below⟩
     | true =>
       go_upto_region 5 with fail
       obtain ⟨q, hq⟩ : ∃ q, typeB b5 ty types.length = q := ⟨_, rfl⟩
       rw [hq] at HR
       unfold typeB at hq
       have HQ := Lib.hid hq
       clear hq
       go_cut [88] (fun c wx => c = .bool (!q) ∧ Hid (Boxes w wx w.heap.size (w.heap.size + 1) #[.slice ta types.length tc, .slice fa funs.length fc] #[.int .u8 op, .int .i64 ty, .int .i64 a, .int .i64 bb, .int .i64 n, .slice aa args.length ac, .slice xa from_.length xc]))
       case first =>
        have x0 := HW2.out.x.cells 0; have x1 := HW2.out.x.cells 1; have x2 := HW2.out.x.cells 2; have x3 := HW2.out.x.cells 3; have x4 := HW2.out.x.cells 4; have x5 := HW2.out.x.cells 5; have x6 := HW2.out.x.cells 6; have p0 := HW2.out.p.cells 0; have p1 := HW2.out.p.cells 1
        go_wp2_with fail
        refine (ranswers_is H5.out _).mono ?_
        rintro e w3 ⟨rfl, hb3⟩
        have HW3 := Lib.hid (HW2.out.on hb3)
        clear hb3 x0 x1 x2 x3 x4 x5 x6 p0 p1
        have x0 := HW3.out.x.cells 0; have x1 := HW3.out.x.cells 1; have x2 := HW3.out.x.cells 2; have x3 := HW3.out.x.cells 3; have x4 := HW3.out.x.cells 4; have x5 := HW3.out.x.cells 5; have x6 := HW3.out.x.cells 6; have p0 := HW3.out.p.cells 0; have p1 := HW3.out.p.cells 1
        cases b5 with
        | true =>
          by_cases t0 : ty < 0
          ·
           have hq : q = false := by rw [← HQ.out]; exact inB_not.2 (by omega)
           subst hq
           go_wp2_with fail
           go_meet
           exact ⟨by first | rfl | exact congrArg Value.bool (show _ = false by rw [Bool.or_eq_false_iff, decide_eq_false_iff_not, decide_eq_false_iff_not]; exact ⟨by omega, by omega⟩), HW3⟩
          by_cases t1 : ty < types.length
          ·
           have hq : q = true := by rw [← HQ.out]; exact inB_iff.2 (by omega)
           subst hq
           go_wp2_with fail
           refine (ranswers_is H5.out _).mono ?_
           rintro e w4 ⟨rfl, hb4⟩
           have HW4 := Lib.hid (HW3.out.on hb4)
           clear hb4 x0 x1 x2 x3 x4 x5 x6 p0 p1
           have x0 := HW4.out.x.cells 0; have x1 := HW4.out.x.cells 1; have x2 := HW4.out.x.cells 2; have x3 := HW4.out.x.cells 3; have x4 := HW4.out.x.cells 4; have x5 := HW4.out.x.cells 5; have x6 := HW4.out.x.cells 6; have p0 := HW4.out.p.cells 0; have p1 := HW4.out.p.cells 1
           go_wp2_with fail
           go_meet
           exact ⟨by first | rfl | exact congrArg Value.bool (show _ = false by rw [Bool.or_eq_false_iff, decide_eq_false_iff_not, decide_eq_false_iff_not]; exact ⟨by omega, by omega⟩), HW4⟩
          ·
           have hq : q = false := by rw [← HQ.out]; exact inB_not.2 (by omega)
           subst hq
           go_wp2_with fail
           go_meet
           exact ⟨by first | rfl | exact congrArg Value.bool (show _ = false by rw [Bool.or_eq_false_iff, decide_eq_false_iff_not, decide_eq_false_iff_not]; exact ⟨by omega, by omega⟩), HW3⟩
        | false =>
          by_cases t0 : ty = 0
          · obtain rfl := t0
            have hq : q = true := by rw [← HQ.out]; rfl
            subst hq
            go_wp2_with fail
            refine (ranswers_is H5.out _).mono ?_
            rintro e w4 ⟨rfl, hb4⟩
            have HW4 := Lib.hid (HW3.out.on hb4)
            clear hb4 x0 x1 x2 x3 x4 x5 x6 p0 p1
            have x0 := HW4.out.x.cells 0; have x1 := HW4.out.x.cells 1; have x2 := HW4.out.x.cells 2; have x3 := HW4.out.x.cells 3; have x4 := HW4.out.x.cells 4; have x5 := HW4.out.x.cells 5; have x6 := HW4.out.x.cells 6; have p0 := HW4.out.p.cells 0; have p1 := HW4.out.p.cells 1
            go_wp2_with fail
            go_meet
            exact ⟨by first | rfl | exact congrArg Value.bool (show _ = false by rw [Bool.or_eq_false_iff, decide_eq_false_iff_not, decide_eq_false_iff_not]; exact ⟨by omega, by omega⟩), HW4⟩
          · have ez : (ty != 0) = true := bne_iff_ne.2 t0
            have hq : q = false := by rw [← HQ.out]; simp [t0]
            clear t0
            subst hq
            go_wp2_with fail
            refine (ranswers_is H5.out _).mono ?_
            rintro e w4 ⟨rfl, hb4⟩
            have HW4 := Lib.hid (HW3.out.on hb4)
            clear hb4 x0 x1 x2 x3 x4 x5 x6 p0 p1
            have x0 := HW4.out.x.cells 0; have x1 := HW4.out.x.cells 1; have x2 := HW4.out.x.cells 2; have x3 := HW4.out.x.cells 3; have x4 := HW4.out.x.cells 4; have x5 := HW4.out.x.cells 5; have x6 := HW4.out.x.cells 6; have p0 := HW4.out.p.cells 0; have p1 := HW4.out.p.cells 1
            go_wp2_with fail
            go_meet
            exact ⟨rfl, HW4⟩
       case rest =>
        clear HQ HW2
        obtain ⟨rfl, HW2⟩ := hcut
        cases q with
        | false =>
          have HZ : Hid (r = false) := Lib.hid (by rw [HR.out]; rfl)
          go_wp2_with fail
          go_ret
          exact ⟨ret_bool HZ.out.symm, HW2.out.below⟩
        | true =>
          have x0 := HW2.out.x.cells 0; have x1 := HW2.out.x.cells 1; have x2 := HW2.out.x.cells 2; have x3 := HW2.out.x.cells 3; have x4 := HW2.out.x.cells 4; have x5 := HW2.out.x.cells 5; have x6 := HW2.out.x.cells 6; have p0 := HW2.out.p.cells 0; have p1 := HW2.out.p.cells 1
          have HR2 : Hid (r = fromB op args.length from_ many) := Lib.hid (by rw [HR.out]; rfl)
          clear HR
          by_cases e22 : op = 22
          · have eo : ((op : Int) == 22) = true := op_is e22
            have HR3 : Hid (r = (decide (from_.length = args.length) && (decide (1 ≤ from_.length ∧ from_.length ≤ 16) && allB from_ many))) := Lib.hid (by rw [HR2.out]; exact if_pos e22)
            clear e22
            by_cases f0 : from_.length = args.length
            · have f0z : (from_.length : Int) = args.length := by omega
              by_cases f1 : 1 ≤ from_.length
              · have f1z : 1 ≤ (from_.length : Int) := by omega
                by_cases f2 : from_.length ≤ 16
                · have f2z : (from_.length : Int) ≤ 16 := by omega
                  have HZ : Hid (allB from_ many = r) := Lib.hid (by rw [HR3.out, decide_eq_true f0, decide_eq_true ⟨f1, f2⟩]; rfl)
                  clear f0 f1 f2
                  go_wp2_with fail
                  refine (rbelow_is HX.out.fhdr (HX.out.from_.up HW2.out.below) many HZ.out).mono ?_
                  rintro e w3 ⟨rfl, hb3⟩
                  have HW3 := Lib.hid (HW2.out.on hb3)
                  clear hb3
                  go_wp2_with fail
                  go_ret
                  exact ⟨rfl, HW3.out.below⟩
                ·
                 have HZ : Hid (r = false) := Lib.hid (by rw [HR3.out, decide_eq_false (show ¬ (1 ≤ from_.length ∧ from_.length ≤ 16) by omega)]; simp)
                 go_wp2_with fail
                 go_ret
                 exact ⟨ret_bool HZ.out.symm, HW2.out.below⟩
              ·
               have HZ : Hid (r = false) := Lib.hid (by rw [HR3.out, decide_eq_false (show ¬ (1 ≤ from_.length ∧ from_.length ≤ 16) by omega)]; simp)
               go_wp2_with fail
               go_ret
               exact ⟨ret_bool HZ.out.symm, HW2.out.below⟩
            ·
             have f0z : ((from_.length : Int) == args.length) = false := op_no f0
             have HZ : Hid (r = false) := Lib.hid (by rw [HR3.out, decide_eq_false f0]; simp)
             clear f0
             go_wp2_with fail
             go_ret
             exact ⟨ret_bool HZ.out.symm, HW2.out.below⟩
          · have eo : ((op : Int) == 22) = false := op_no e22
            have HR3 : Hid (r = (decide (from_.length = 0) && decide (args.length ≤ 4))) := Lib.hid (by rw [HR2.out]; exact if_neg e22)
            clear e22
            by_cases f0 : from_.length = 0
            · have f0z : (from_.length : Int) = 0 := by omega
              by_cases f1 : args.length ≤ 4
              ·
               have HZ : Hid (r = true) := Lib.hid (by rw [HR3.out, decide_eq_true f0, decide_eq_true f1]; rfl)
               go_wp2_with fail
               go_ret
               exact ⟨ret_bool (by rw [HZ.out]; exact decide_eq_true (by omega)), HW2.out.below⟩
              ·
               have HZ : Hid (r = false) := Lib.hid (by rw [HR3.out, decide_eq_false f1]; simp)
               go_wp2_with fail
               go_ret
               exact ⟨ret_bool (by rw [HZ.out]; exact decide_eq_false (by omega)), HW2.out.below⟩
            ·
             have f0z : ((from_.length : Int) == 0) = false := op_no (m := 0) f0
             have HZ : Hid (r = false) := Lib.hid (by rw [HR3.out, decide_eq_false f0]; simp)
             clear f0
             go_wp2_with fail
             go_ret
             exact ⟨ret_bool HZ.out.symm, HW2.out.below⟩
end Go.Proofs.YtbffebcjimhapaaGreatDoor
