/-
  What a card of this seat lays, and a world that holds it. And what stands on it: ShSame1, ShSame2.
-/
import Derived.Test.YtbffebcjimhapaaGreatDoorMg6
import Derived.Test.YtbffebcjimhapaaGreatDoorMg7
import Derived.Test.YtbffebcjimhapaaGreatDoorMg23
import Derived.Test.YtbffebcjimhapaaGreatDoorMg38
import Derived.Test.YtbffebcjimhapaaGreatDoorCards
import Derived.Test.YtbffebcjimhapaaGreatDoorTie
import Derived.Deep.DeepHandedRow
import Derived.Lib.LaidTab
import Derived.Stop.LaidErr
import Derived.Deep.RegionHeld3
import Derived.Outline
namespace Go.Proofs.YtbffebcjimhapaaGreatDoor
set_option linter.unusedVariables false
set_option linter.unusedSimpArgs false
open Go.ChangeShapes Go.WideShapes Go.ChangeAt Go.RowKit
theorem gHas : Tryz.prog.globalNamed "fescue/shape.table" = some 0 := by kernel_rfl
theorem gHasType : (Tryz.prog.globals[0]?).map (·.type) = some 204 := by kernel_rfl
theorem cellsHasTab : Tryz.prog.cellsOf 204 = 138 := by kernel_rfl
theorem cellsHas : Tryz.prog.cellsOf 173 = 6 := by kernel_rfl
theorem cellsBool : Tryz.prog.cellsOf 4 = 1 := by kernel_rfl
section
variable {H : Type} {enc : TypeId × Value → H} {w : World} {base : Nat} {sp : Nat → Bool} {held : Bool}
theorem has_cells {fuel : Nat} {cs : List Value} {p : List MemPlace} {b0 b1 b2 b3 b4 b5 : Bool}
 (h : DataW.trod enc Tryz.prog w base sp held fuel 173 cs = some (.agg [.lit (.bool b0), .lit (.bool b1), .lit (.bool b2), .lit (.bool b3), .lit (.bool b4), .lit (.bool b5)], p)) :
 cs[0]? = some (.bool b0) ∧ cs[1]? = some (.bool b1) ∧ cs[2]? = some (.bool b2) ∧ cs[3]? = some (.bool b3) ∧ cs[4]? = some (.bool b4) ∧ cs[5]? = some (.bool b5) := by
 cases fuel with
 | zero => simp [DataW.trod] at h
 | succ fuel =>
   simp only [DataW.trod, Tryz.underlying173, cellsHas] at h
   split at h
   · rename_i hl
     obtain ⟨xs, hm, hx⟩ := Option.map_eq_some_iff.1 h
     have hx1 : xs.map (·.1) = [.lit (.bool b0), .lit (.bool b1), .lit (.bool b2), .lit (.bool b3), .lit (.bool b4), .lit (.bool b5)] := by
      have := congrArg Prod.fst hx
      simpa using this
     have c0 : cs[0]? = some (.bool b0) := by
      obtain ⟨y, hy, hf⟩ := Lib.mapM_at hm 0 _ rfl
      obtain ⟨b', hc, hy'⟩ := DataW.trod_bool Tryz.underlying4 hf
      have e : b' = b0 := by
       have := congrArg (fun l => l[0]?) hx1
       simpa [hy, hy'] using this
      rw [cellsBool] at hc
      have := congrArg (fun l => l[0]?) hc
      simpa [List.getElem?_take, List.getElem?_drop, e] using this
     have c1 : cs[1]? = some (.bool b1) := by
      obtain ⟨y, hy, hf⟩ := Lib.mapM_at hm 1 _ rfl
      obtain ⟨b', hc, hy'⟩ := DataW.trod_bool Tryz.underlying4 hf
      have e : b' = b1 := by
       have := congrArg (fun l => l[1]?) hx1
       simpa [hy, hy'] using this
      rw [cellsBool] at hc
      have := congrArg (fun l => l[0]?) hc
      simpa [List.getElem?_take, List.getElem?_drop, e] using this
     have c2 : cs[2]? = some (.bool b2) := by
      obtain ⟨y, hy, hf⟩ := Lib.mapM_at hm 2 _ rfl
      obtain ⟨b', hc, hy'⟩ := DataW.trod_bool Tryz.underlying4 hf
      have e : b' = b2 := by
       have := congrArg (fun l => l[2]?) hx1
       simpa [hy, hy'] using this
      rw [cellsBool] at hc
      have := congrArg (fun l => l[0]?) hc
      simpa [List.getElem?_take, List.getElem?_drop, e] using this
     have c3 : cs[3]? = some (.bool b3) := by
      obtain ⟨y, hy, hf⟩ := Lib.mapM_at hm 3 _ rfl
      obtain ⟨b', hc, hy'⟩ := DataW.trod_bool Tryz.underlying4 hf
      have e : b' = b3 := by
       have := congrArg (fun l => l[3]?) hx1
       simpa [hy, hy'] using this
      rw [cellsBool] at hc
      have := congrArg (fun l => l[0]?) hc
      simpa [List.getElem?_take, List.getElem?_drop, e] using this
     have c4 : cs[4]? = some (.bool b4) := by
      obtain ⟨y, hy, hf⟩ := Lib.mapM_at hm 4 _ rfl
      obtain ⟨b', hc, hy'⟩ := DataW.trod_bool Tryz.underlying4 hf
      have e : b' = b4 := by
       have := congrArg (fun l => l[4]?) hx1
       simpa [hy, hy'] using this
      rw [cellsBool] at hc
      have := congrArg (fun l => l[0]?) hc
      simpa [List.getElem?_take, List.getElem?_drop, e] using this
     have c5 : cs[5]? = some (.bool b5) := by
      obtain ⟨y, hy, hf⟩ := Lib.mapM_at hm 5 _ rfl
      obtain ⟨b', hc, hy'⟩ := DataW.trod_bool Tryz.underlying4 hf
      have e : b' = b5 := by
       have := congrArg (fun l => l[5]?) hx1
       simpa [hy, hy'] using this
      rw [cellsBool] at hc
      have := congrArg (fun l => l[0]?) hc
      simpa [List.getElem?_take, List.getElem?_drop, e] using this
     exact ⟨c0, c1, c2, c3, c4, c5⟩
   · cases h
def tabD : DataW H := .agg ((List.range 23).map fun i => .agg [.lit (.bool (hasT i 0)), .lit (.bool (hasT i 1)), .lit (.bool (hasT i 2)), .lit (.bool (hasT i 3)), .lit (.bool (hasT i 4)), .lit (.bool (hasT i 5))])
theorem tab_cells {fuel : Nat} {cs : List Value} {p : List MemPlace} (h : DataW.trod enc Tryz.prog w base sp held fuel 204 cs = some (tabD, p)) :
 ∀ i, i < 23 → ∀ j, j < 6 → cs[i * 6 + j]? = some (.bool (hasT i j)) := by
 intro i hi
 cases fuel with
 | zero => simp [DataW.trod] at h
 | succ fuel =>
   simp only [DataW.trod, Tryz.underlying204, cellsHasTab, cellsHas] at h
   split at h
   · rename_i hl
     obtain ⟨xs, hm, hx⟩ := Option.map_eq_some_iff.1 h
     have hx1 : xs.map (·.1) = (List.range 23).map fun i => (.agg [.lit (.bool (hasT i 0)), .lit (.bool (hasT i 1)), .lit (.bool (hasT i 2)), .lit (.bool (hasT i 3)), .lit (.bool (hasT i 4)), .lit (.bool (hasT i 5))] : DataW H) := by
      have := congrArg Prod.fst hx
      simpa [tabD] using this
     obtain ⟨⟨y1, y2⟩, hy, hf⟩ := Lib.mapM_at hm i i (by simp [hi])
     have e : y1 = .agg [.lit (.bool (hasT i 0)), .lit (.bool (hasT i 1)), .lit (.bool (hasT i 2)), .lit (.bool (hasT i 3)), .lit (.bool (hasT i 4)), .lit (.bool (hasT i 5))] := by
      have := congrArg (fun l => l[i]?) hx1
      simpa [hy, hi] using this
     subst e
     obtain ⟨c0, c1, c2, c3, c4, c5⟩ := has_cells hf
     have key : ∀ j b, j < 6 → ((cs.drop (i * 6)).take 6)[j]? = some b → cs[i * 6 + j]? = some b := fun j b hj hb => by
      rw [List.getElem?_take, if_pos hj, List.getElem?_drop] at hb
      exact hb
     intro j hj
     match j, hj with
     | 0, _ => exact key 0 _ (by omega) c0
     | 1, _ => exact key 1 _ (by omega) c1
     | 2, _ => exact key 2 _ (by omega) c2
     | 3, _ => exact key 3 _ (by omega) c3
     | 4, _ => exact key 4 _ (by omega) c4
     | 5, _ => exact key 5 _ (by omega) c5
   · cases h
end
theorem laid_is : (Rows.laid_fescue_shape_table : DataW Unit) = tabD := rfl
theorem tab_of_laid {W : World} (h : laidMet Tryz.prog Rows.readTellsRow.laid W) : TabW W := by
 obtain ⟨ps, ⟨g', t', cs, fuel, p, q, hg', ht', hvar, hd, _, _⟩, _⟩ := h
 obtain rfl := Option.some.inj (gHas.symm.trans hg')
 obtain rfl := Option.some.inj (gHasType.symm.trans ht')
 rw [laid_is] at hd
 intro i hi j hj
 have h2 := World.var?_cell gHas hvar (i * 6 + j)
 rw [h2]
 have h3 := tab_cells hd i hi j hj
 simpa using h3
/- A world for the witness: the settled one, its tables laid. -/
def layAs (cs : Array Value) : Obj → Obj
 | .cells _ t frozen => .cells cs t frozen
 | o => o
def shapeTabA : Array Value := #[.bool false, .bool false, .bool false, .bool false, .bool false, .bool false, .bool false, .bool false, .bool true, .bool false, .bool false, .bool true, .bool false, .bool false, .bool false, .bool false, .bool false, .bool true, .bool false, .bool false, .bool true, .bool false, .bool false, .bool true, .bool true, .bool true, .bool false, .bool false, .bool false, .bool true, .bool true, .bool true, .bool false, .bool false, .bool false, .bool true, .bool true, .bool true, .bool false, .bool false, .bool false, .bool true, .bool true, .bool true, .bool false, .bool false, .bool false, .bool true, .bool true, .bool true, .bool false, .bool false, .bool false, .bool true, .bool true, .bool true, .bool false, .bool false, .bool false, .bool true, .bool true, .bool true, .bool false, .bool false, .bool false, .bool true, .bool false, .bool false, .bool false, .bool false, .bool false, .bool true, .bool false, .bool false, .bool false, .bool false, .bool false, .bool true, .bool true, .bool false, .bool false, .bool false, .bool false, .bool false, .bool true, .bool false, .bool true, .bool false, .bool false, .bool true, .bool true, .bool true, .bool false, .bool false, .bool false, .bool true, .bool true, .bool false, .bool false, .bool false, .bool false, .bool true, .bool true, .bool true, .bool false, .bool false, .bool false, .bool false, .bool false, .bool false, .bool true, .bool true, .bool false, .bool true, .bool true, .bool false, .bool false, .bool true, .bool false, .bool true, .bool false, .bool false, .bool false, .bool false, .bool false, .bool true, .bool true, .bool false, .bool false, .bool false, .bool false, .bool false, .bool false, .bool false, .bool false, .bool true, .bool true, .bool true]
noncomputable def laidWorld (os : Os) : World :=
 { World.holding Tryz.prog os ⟨#[], #[], []⟩ with heap := (World.holding Tryz.prog os ⟨#[], #[], []⟩).heap.modify 0 (layAs shapeTabA) }
theorem laid_met (os : Os) (args : Array Value) : laidMet Tryz.prog Rows.readTellsRow.laid ((laidWorld os).forCall (fun _ _ => 0) ⟨#[], args, []⟩).memory :=
 laidMet_of_run' 8 (by kernel_rfl) (by kernel_rfl)
structure Two (w0 w : World) (t : TypeId) (gx gy : Nat) (x y : Array Value) : Prop where
 x : Blk w gx t x
 y : Blk w gy t y
 below : Below w0.heap.size w0 w
theorem Two.on {w0 w w' : World} {t : TypeId} {gx gy : Nat} {x y : Array Value} (h : Two w0 w t gx gy x y) (hb : Below w.heap.size w w') : Two w0 w' t gx gy x y := ⟨h.x.beneath hb, h.y.beneath hb, h.below.trans (hb.mono h.below.size)⟩
def insD (l : List InR) : List PIns := l.map InR.data
theorem insD_len (l : List InR) : (insD l).length = l.length := List.length_map ..
theorem insD_at {l : List InR} {k : Nat} (h : k < l.length) : (insD l).getD k default = (l.getD k default).data := map_getD InR.data l h
theorem ne_bool {a b : Int} (h : a ≠ b) : (a != b) = true := bne_iff_ne.2 h
theorem ne_boolN {a b : Nat} (h : a ≠ b) : ((a : Int) != (b : Int)) = true := bne_iff_ne.2 (by omega)
theorem sames_is {w : World} {A A' : Option Addr} {c c' : Nat} {xs ys : List Int} (hh : Hdr A xs.length c) (hx : IntsAt w 0 w.heap.size A xs) (hh' : Hdr A' ys.length c') (hy : IntsAt w 0 w.heap.size A' ys) {b : Bool} (hb : decide (xs = ys) = b) :
 Calls Tryz.prog 113 #[.slice A xs.length c, .slice A' ys.length c'] w fun e w' => e = .returned (.bool b) ∧ Below w.heap.size w w' := hb ▸ sameInts_any hh hx hh' hy
set_option maxRecDepth 100000 in
set_option maxHeartbeats 6400000 in
theorem rsameIns_any {w : World} {A A' : Option Addr} {c c' : Nat} {xs ys : List InR} (h : InsAt w A c xs) (h' : InsAt w A' c' ys) :
 Calls Tryz.prog 69 #[.slice A xs.length c, .slice A' ys.length c'] w fun e w' => e = .returned (.bool (decide (insD xs = insD ys))) ∧ Below w.heap.size w w' := by
 have hl := h.hdr.cle
 have hl' := h'.hdr.cle
 have HX := Lib.hid h
 have HY := Lib.hid h'
 clear h h'
 by_cases hlen : xs.length = ys.length
 · have q : (xs.length : Int) = ys.length := by omega
   clear hlen
   go_enter Tryz.func69, Tryz.ntmps69
   go_wp2_with fail
   go_loopw [5] (fun i wr => ∃ k : Nat, k ≤ xs.length ∧ i = .int .i64 k ∧ Hid ((insD xs).take k = (insD ys).take k) ∧ Hid (Below w.heap.size w wr)) (fun i _ => xs.length - (intOf i).toNat)
   case atStart => exact ⟨0, Nat.zero_le _, rfl, Lib.hid rfl, Lib.hid (Below.refl _ _)⟩
   case round =>
    obtain ⟨k, hk, rfl, HT, HB⟩ := hrel
    by_cases hlt : k < xs.length
    · have hlt' : k < ys.length := by omega
      obtain ⟨b, off, r, rfl, hb, ⟨d0, d1, d2, d3, d4, d5, d6⟩, hr, HE⟩ := (HX.out.on HB.out).elem hlt
      obtain ⟨b', off', r', rfl, hb', ⟨d0', d1', d2', d3', d4', d5', d6'⟩, hr', HE'⟩ := (HY.out.on HB.out).elem hlt'
      have HNE : Hid (r.data ≠ r'.data → insD xs ≠ insD ys) := Lib.hid (fun hn => ne_of_getD (d := default) (k := k) (by rw [insD_at hlt, insD_at hlt', HE.out, HE'.out]; exact hn))
      have HEQ : Hid (r.data = r'.data → (insD xs).take (k + 1) = (insD ys).take (k + 1)) := Lib.hid (fun he => take_eq_succ (d := default) HT.out (by rw [insD_len]; exact hlt) (by rw [insD_len]; exact hlt') (by rw [insD_at hlt, insD_at hlt', HE.out, HE'.out]; exact he))
      have hk0 : (0 : Int) ≤ (k : Int) := Int.natCast_nonneg _
      have hk1 : (k : Int) < (xs.length : Int) := by omega
      have hk2 : (k : Int) < (ys.length : Int) := by omega
      have HLT := Lib.hid hlt
      have HR := Lib.hid hr
      have HR' := Lib.hid hr'
      obtain ⟨op, ty, xa, xb, xn, aa, ac, args, fa, fc, from_⟩ := r
      obtain ⟨op', ty', xa', xb', xn', aa', ac', args', fa', fc', from_'⟩ := r'
      dsimp only at *
      have hal := hr.ahdr.cle
      have hfl := hr.fhdr.cle
      have hal' := hr'.ahdr.cle
      have hfl' := hr'.fhdr.cle
      have n1 : wr.heap.size ≠ b := by omega
      have n2 : wr.heap.size ≠ b' := by omega
      have n3 : wr.heap.size + 1 ≠ b := by omega
      have n4 : wr.heap.size + 1 ≠ b' := by omega
      clear hr hr' hlt hlt' HE HE'
      go_wp2_with fail
      go_upto_region 7 with fail
      go_cut [6, 7] (fun x y wx => ∃ gx gy : Nat, x = .pointer (some ⟨gx, 0, none⟩) ∧ y = .pointer (some ⟨gy, 0, none⟩) ∧ Hid (Two wr wx 74 gx gy #[.int .u8 op, .int .i64 ty, .int .i64 xa, .int .i64 xb, .int .i64 xn, .slice aa args.length ac, .slice fa from_.length fc] #[.int .u8 op', .int .i64 ty', .int .i64 xa', .int .i64 xb', .int .i64 xn', .slice aa' args'.length ac', .slice fa' from_'.length fc']))
      case first =>
       go_region_held3 (fun w' => w'.cell? ⟨b, off + k * 7, none⟩ = some (.int .u8 op) ∧ w'.cell? ⟨b, off + k * 7 + 1, none⟩ = some (.int .i64 ty) ∧ w'.cell? ⟨b, off + k * 7 + 2, none⟩ = some (.int .i64 xa) ∧ w'.cell? ⟨b, off + k * 7 + 3, none⟩ = some (.int .i64 xb) ∧ w'.cell? ⟨b, off + k * 7 + 4, none⟩ = some (.int .i64 xn) ∧ w'.cell? ⟨b, off + k * 7 + 5, none⟩ = some (.slice aa args.length ac) ∧ w'.cell? ⟨b, off + k * 7 + 6, none⟩ = some (.slice fa from_.length fc) ∧ w'.cell? ⟨b', off' + k * 7, none⟩ = some (.int .u8 op') ∧ w'.cell? ⟨b', off' + k * 7 + 1, none⟩ = some (.int .i64 ty') ∧ w'.cell? ⟨b', off' + k * 7 + 2, none⟩ = some (.int .i64 xa') ∧ w'.cell? ⟨b', off' + k * 7 + 3, none⟩ = some (.int .i64 xb') ∧ w'.cell? ⟨b', off' + k * 7 + 4, none⟩ = some (.int .i64 xn') ∧ w'.cell? ⟨b', off' + k * 7 + 5, none⟩ = some (.slice aa' args'.length ac') ∧ w'.cell? ⟨b', off' + k * 7 + 6, none⟩ = some (.slice fa' from_'.length fc')) (go_keep) (fail)
       all_goals
        go_wp2_with fail
        go_meet
        first
         | exact ⟨_, _, rfl, rfl, Lib.hid ⟨((Blk.new _ _ _).alloc _).drew, (Blk.new2 _ _ _ _).drew, (((Below.refl _ _).alloc (Nat.le_refl _) _).alloc (by rw [World.size_alloc]; omega) _).drew⟩⟩
         | exact ⟨_, _, rfl, rfl, Lib.hid ⟨(Blk.new2 _ _ _ _).drew, ((Blk.new _ _ _).alloc _).drew, (((Below.refl _ _).alloc (Nat.le_refl _) _).alloc (by rw [World.size_alloc]; omega) _).drew⟩⟩
      case rest =>
       clear d0 d1 d2 d3 d4 d5 d6 d0' d1' d2' d3' d4' d5' d6' n1 n2 n3 n4 hb hb'
       obtain ⟨gx, gy, rfl, rfl, HW⟩ := hcut
       have x0 := HW.out.x.cells 0; have x1 := HW.out.x.cells 1; have x2 := HW.out.x.cells 2; have x3 := HW.out.x.cells 3; have x4 := HW.out.x.cells 4; have x5 := HW.out.x.cells 5; have x6 := HW.out.x.cells 6; have y0 := HW.out.y.cells 0; have y1 := HW.out.y.cells 1; have y2 := HW.out.y.cells 2; have y3 := HW.out.y.cells 3; have y4 := HW.out.y.cells 4; have y5 := HW.out.y.cells 5; have y6 := HW.out.y.cells 6
       by_cases e0 : op = op'
       · subst e0
         by_cases e1 : ty = ty'
         · subst e1
           by_cases e2 : xa = xa'
           · subst e2
             by_cases e3 : xb = xb'
             · subst e3
               by_cases e4 : xn = xn'
               · subst e4
                 obtain ⟨q5, hq5⟩ : ∃ q, decide (args = args') = q := ⟨_, rfl⟩
                 have HQ5 := Lib.hid hq5
                 clear hq5
                 have HB2 := Lib.hid (HB.out.trans (HW.out.below.mono HB.out.size))
                 go_wp2_with fail
                 refine (sames_is HR.out.ahdr (HR.out.args.up HW.out.below) HR'.out.ahdr (HR'.out.args.up HW.out.below) HQ5.out).mono ?_
                 rintro e w2 ⟨rfl, hb2⟩
                 have HW2 := Lib.hid (HW.out.on hb2)
                 clear hb2 x0 x1 x2 x3 x4 x5 x6 y0 y1 y2 y3 y4 y5 y6
                 have x0 := HW2.out.x.cells 0; have x1 := HW2.out.x.cells 1; have x2 := HW2.out.x.cells 2; have x3 := HW2.out.x.cells 3; have x4 := HW2.out.x.cells 4; have x5 := HW2.out.x.cells 5; have x6 := HW2.out.x.cells 6; have y0 := HW2.out.y.cells 0; have y1 := HW2.out.y.cells 1; have y2 := HW2.out.y.cells 2; have y3 := HW2.out.y.cells 3; have y4 := HW2.out.y.cells 4; have y5 := HW2.out.y.cells 5; have y6 := HW2.out.y.cells 6
                 cases q5 with
                 | false =>
                   have HN := Lib.hid (HNE.out (fun h => by injection h with _ _ _ _ _ h _; exact of_decide_eq_false HQ5.out h))
                   go_wp2_with fail
                   go_ret
                   exact ⟨ret_bool (by rw [decide_eq_false HN.out]), HB.out.trans (HW2.out.below.mono HB.out.size)⟩
                 | true =>
                   obtain ⟨q6, hq6⟩ : ∃ q, decide (from_ = from_') = q := ⟨_, rfl⟩
                   have HQ6 := Lib.hid hq6
                   clear hq6
                   go_wp2_with fail
                   refine (sames_is HR.out.fhdr (HR.out.from_.up HW2.out.below) HR'.out.fhdr (HR'.out.from_.up HW2.out.below) HQ6.out).mono ?_
                   rintro e w3 ⟨rfl, hb3⟩
                   have HW3 := Lib.hid (HW2.out.on hb3)
                   clear hb3 x0 x1 x2 x3 x4 x5 x6 y0 y1 y2 y3 y4 y5 y6
                   cases q6 with
                   | false =>
                     have HN := Lib.hid (HNE.out (fun h => by injection h with _ _ _ _ _ _ h; exact of_decide_eq_false HQ6.out h))
                     go_wp2_with fail
                     go_ret
                     exact ⟨ret_bool (by rw [decide_eq_false HN.out]), HB.out.trans (HW3.out.below.mono HB.out.size)⟩
                   | true =>
                     have HE2 := Lib.hid (HEQ.out (by rw [InR.data, InR.data]; dsimp only; rw [of_decide_eq_true HQ5.out, of_decide_eq_true HQ6.out]))
                     have HB4 := Lib.hid (HB.out.trans (HW3.out.below.mono HB.out.size))
                     go_wp2_with fail
                     go_roundw
                     case rel => exact ⟨k + 1, by have := HLT.out; omega, by go_num, HE2, HB4⟩
                     case measure => simp [intOf]; have := HLT.out; omega
               · have z4 := ne_bool e4
                 have E4 := Lib.hid e4
                 clear e4
                 have HN := Lib.hid (HNE.out (fun h => by injection h with _ _ _ _ h _ _; exact E4.out h))
                 go_wp2_with fail
                 go_ret
                 exact ⟨ret_bool (by rw [decide_eq_false HN.out]), HB.out.trans (HW.out.below.mono HB.out.size)⟩
             · have z3 := ne_bool e3
               have E3 := Lib.hid e3
               clear e3
               have HN := Lib.hid (HNE.out (fun h => by injection h with _ _ _ h _ _ _; exact E3.out h))
               go_wp2_with fail
               go_ret
               exact ⟨ret_bool (by rw [decide_eq_false HN.out]), HB.out.trans (HW.out.below.mono HB.out.size)⟩
           · have z2 := ne_bool e2
             have E2 := Lib.hid e2
             clear e2
             have HN := Lib.hid (HNE.out (fun h => by injection h with _ _ h _ _ _ _; exact E2.out h))
             go_wp2_with fail
             go_ret
             exact ⟨ret_bool (by rw [decide_eq_false HN.out]), HB.out.trans (HW.out.below.mono HB.out.size)⟩
         · have z1 := ne_bool e1
           have E1 := Lib.hid e1
           clear e1
           have HN := Lib.hid (HNE.out (fun h => by injection h with _ h _ _ _ _ _; exact E1.out h))
           go_wp2_with fail
           go_ret
           exact ⟨ret_bool (by rw [decide_eq_false HN.out]), HB.out.trans (HW.out.below.mono HB.out.size)⟩
       · have z0 := ne_boolN e0
         have E0 := Lib.hid e0
         clear e0
         have HN := Lib.hid (HNE.out (fun h => by injection h with h _ _ _ _ _ _; exact E0.out h))
         go_wp2_with fail
         go_ret
         exact ⟨ret_bool (by rw [decide_eq_false HN.out]), HB.out.trans (HW.out.below.mono HB.out.size)⟩
    · go_wp2_with fail
      go_ret
      exact ⟨ret_bool (by rw [decide_eq_true]; have := HT.out; rwa [List.take_of_length_le (by rw [insD_len]; omega), List.take_of_length_le (by rw [insD_len]; omega)] at this), HB.out⟩
 · have q : ¬ (xs.length : Int) = ys.length := by omega
   have HN : Hid (insD xs ≠ insD ys) := Lib.hid (fun h => hlen (by rw [← insD_len xs, h, insD_len]))
   clear hlen
   go_enter Tryz.func69, Tryz.ntmps69
   go_wp2_with fail
   go_ret
   exact ⟨ret_bool (by rw [decide_eq_false HN.out]), Below.refl _ _⟩
theorem seqEnd4 (k k' : Nat) (a t e a' t' e' : Int) (w : World) : (Op.equalIn 10000 69 (.agg #[.int .u8 k, .int .i64 a, .int .i64 t, .int .i64 e]) (.agg #[.int .u8 k', .int .i64 a', .int .i64 t', .int .i64 e'])).run Tryz.prog w = .ok (decide ((⟨k, a, t, e⟩ : PEnd) = ⟨k', a', t', e'⟩)) w := by
 have u0 := Tryz.underlying5
 have u2 := Tryz.underlying3
 have hS : Tryz.prog.underlying 69 = some (.struct (Tryz.prog.fieldsOf 69)) := by kernel_rfl
 rw [show (10000 : Nat) = 9999 + 1 from rfl, run_equalIn_agg w 9999 69 _ _ hS (by kernel_rfl)]
 simp only [Program.fieldsOf, Tryz.underlying69]
 go_simp
 by_cases h1 : k = k' <;> by_cases h2 : a = a' <;> by_cases h3 : t = t' <;> by_cases h4 : e = e' <;> simp [h1, h2, h3, h4] <;> omega
theorem seqEnd_is {k k' : Nat} {a t e a' t' e' : Int} {b : Bool} (h : decide ((⟨k, a, t, e⟩ : PEnd) = ⟨k', a', t', e'⟩) = b) (w : World) : (Op.equalIn 10000 69 (.agg #[.int .u8 k, .int .i64 a, .int .i64 t, .int .i64 e]) (.agg #[.int .u8 k', .int .i64 a', .int .i64 t', .int .i64 e'])).run Tryz.prog w = .ok b w := h ▸ seqEnd4 k k' a t e a' t' e' w
def blkD (l : List BlR) : List PBlk := l.map BlR.data
theorem blkD_len (l : List BlR) : (blkD l).length = l.length := List.length_map ..
theorem blkD_at {l : List BlR} {k : Nat} (h : k < l.length) : (blkD l).getD k default = (l.getD k default).data := map_getD BlR.data l h
theorem rsameIns_is {w : World} {A A' : Option Addr} {c c' : Nat} {xs ys : List InR} (h : InsAt w A c xs) (h' : InsAt w A' c' ys) {b : Bool} (hb : decide (insD xs = insD ys) = b) :
 Calls Tryz.prog 69 #[.slice A xs.length c, .slice A' ys.length c'] w fun e w' => e = .returned (.bool b) ∧ Below w.heap.size w w' := hb ▸ rsameIns_any h h'
set_option maxRecDepth 100000 in
set_option maxHeartbeats 3200000 in
theorem rsameBlocks_any {w : World} {A A' : Option Addr} {c c' : Nat} {xs ys : List BlR} (h : BlksAt w A c xs) (h' : BlksAt w A' c' ys) :
 Calls Tryz.prog 30 #[.slice A xs.length c, .slice A' ys.length c'] w fun e w' => e = .returned (.bool (decide (blkD xs = blkD ys))) ∧ Below w.heap.size w w' := by
 have hl := h.hdr.cle
 have hl' := h'.hdr.cle
 have HX := Lib.hid h
 have HY := Lib.hid h'
 clear h h'
 by_cases hlen : xs.length = ys.length
 · have q : (xs.length : Int) = ys.length := by omega
   clear hlen
   go_enter Tryz.func30, Tryz.ntmps30
   go_wp2_with fail
   go_loopw [5] (fun i wr => ∃ k : Nat, k ≤ xs.length ∧ i = .int .i64 k ∧ Hid ((blkD xs).take k = (blkD ys).take k) ∧ Hid (Below w.heap.size w wr)) (fun i _ => xs.length - (intOf i).toNat)
   case atStart => exact ⟨0, Nat.zero_le _, rfl, Lib.hid rfl, Lib.hid (Below.refl _ _)⟩
   case round =>
    obtain ⟨k, hk, rfl, HT, HB⟩ := hrel
    by_cases hlt : k < xs.length
    · have hlt' : k < ys.length := by omega
      obtain ⟨b, off, r, rfl, hb, ⟨d0, d1, d2, d3, d4⟩, hr, HE⟩ := (HX.out.on HB.out).elem hlt
      obtain ⟨b', off', r', rfl, hb', ⟨d0', d1', d2', d3', d4'⟩, hr', HE'⟩ := (HY.out.on HB.out).elem hlt'
      have HNE : Hid (r.data ≠ r'.data → blkD xs ≠ blkD ys) := Lib.hid (fun hn => ne_of_getD (d := default) (k := k) (by rw [blkD_at hlt, blkD_at hlt', HE.out, HE'.out]; exact hn))
      have HEQ : Hid (r.data = r'.data → (blkD xs).take (k + 1) = (blkD ys).take (k + 1)) := Lib.hid (fun he => take_eq_succ (d := default) HT.out (by rw [blkD_len]; exact hlt) (by rw [blkD_len]; exact hlt') (by rw [blkD_at hlt, blkD_at hlt', HE.out, HE'.out]; exact he))
      have hk0 : (0 : Int) ≤ (k : Int) := Int.natCast_nonneg _
      have hk1 : (k : Int) < (xs.length : Int) := by omega
      have hk2 : (k : Int) < (ys.length : Int) := by omega
      have HLT := Lib.hid hlt
      have HR := Lib.hid hr
      have HR' := Lib.hid hr'
      obtain ⟨ia, ic, ins, kd, ea, et, el⟩ := r
      obtain ⟨ia', ic', ins', kd', ea', et', el'⟩ := r'
      dsimp only at *
      obtain ⟨z, hz⟩ : ∃ z, decide (insD ins = insD ins') = z := ⟨_, rfl⟩
      have HC := Lib.hid (fun W (hw : Below wr.heap.size wr W) => rsameIns_is (HR.out.ins.on hw) (HR'.out.ins.on hw) hz)
      have HZ := Lib.hid hz
      clear hr hr' hlt hlt' HE HE' hz
      cases hq : decide ((⟨kd, ea, et, el⟩ : PEnd) = ⟨kd', ea', et', el'⟩) with
      | false =>
        have qe := seqEnd_is hq
        have HQ := Lib.hid hq
        have HN := Lib.hid (HNE.out (fun h => by injection h with _ h; exact of_decide_eq_false HQ.out h))
        clear hq
        go_wp2_with fail
        refine wp_region_off (by kernel_rfl) (by kernel_rfl) ?_
        rintro W rfl
        have oc1 := fun m => Off.at d1 m
        have oc2 := fun m => Off.at d2 m
        have oc3 := fun m => Off.at d3 m
        have oc4 := fun m => Off.at d4 m
        have pc1 := fun m => Off.at d1' m
        have pc2 := fun m => Off.at d2' m
        have pc3 := fun m => Off.at d3' m
        have pc4 := fun m => Off.at d4' m
        repeat (go_big_quiet_step (fail))
        refine wpQuiet_nil ?_
        intro w2 hw2
        obtain ⟨⟨w2, hb2⟩, rfl⟩ := hw2
        have HB2 := Lib.hid (HB.out.trans (hb2.mono HB.out.size))
        clear hb2 oc1 oc2 oc3 oc4 pc1 pc2 pc3 pc4 d0 d1 d2 d3 d4 d0' d1' d2' d3' d4' qe
        go_wp2_with fail
        go_ret
        exact ⟨ret_bool (by rw [decide_eq_false HN.out]), HB2.out⟩
      | true =>
        have qe := seqEnd_is hq
        have HQ := Lib.hid hq
        clear hq
        cases z
        all_goals
         go_wp2_with fail
         refine wp_region_off (by kernel_rfl) (by kernel_rfl) ?_
         rintro W rfl
         have oc0 := fun m => Off.at d0 m
         have oc1 := fun m => Off.at d1 m
         have oc2 := fun m => Off.at d2 m
         have oc3 := fun m => Off.at d3 m
         have oc4 := fun m => Off.at d4 m
         have pc0 := fun m => Off.at d0' m
         have pc1 := fun m => Off.at d1' m
         have pc2 := fun m => Off.at d2' m
         have pc3 := fun m => Off.at d3' m
         have pc4 := fun m => Off.at d4' m
         repeat (go_big_quiet_step ((go_at_call 69; exact Calls.off (HC.out _ (Off.below _)))))
         refine wpQuiet_nil ?_
         intro w2 hw2
         obtain ⟨⟨w2, hb2⟩, rfl⟩ := hw2
         have HB2 := Lib.hid (HB.out.trans (hb2.mono HB.out.size))
         clear hb2 oc0 oc1 oc2 oc3 oc4 pc0 pc1 pc2 pc3 pc4 d0 d1 d2 d3 d4 d0' d1' d2' d3' d4' qe
         go_wp2_with fail
        · have HN := Lib.hid (HNE.out (fun h => by injection h with h _; exact of_decide_eq_false HZ.out h))
          go_ret
          exact ⟨ret_bool (by rw [decide_eq_false HN.out]), HB2.out⟩
        · have HE2 := Lib.hid (HEQ.out (by
           show (⟨insD ins, ⟨kd, ea, et, el⟩⟩ : PBlk) = ⟨insD ins', ⟨kd', ea', et', el'⟩⟩
           rw [of_decide_eq_true HQ.out, of_decide_eq_true HZ.out]))
          go_roundw
          case rel => exact ⟨k + 1, by have := HLT.out; omega, by go_num, HE2, HB2⟩
          case measure => simp [intOf]; have := HLT.out; omega
    · go_wp2_with fail
      go_ret
      exact ⟨ret_bool (by rw [decide_eq_true]; have := HT.out; rwa [List.take_of_length_le (by rw [blkD_len]; omega), List.take_of_length_le (by rw [blkD_len]; omega)] at this), HB.out⟩
 · have q : ¬ (xs.length : Int) = ys.length := by omega
   have HN : Hid (blkD xs ≠ blkD ys) := Lib.hid (fun h => hlen (by rw [← blkD_len xs, h, blkD_len]))
   clear hlen
   go_enter Tryz.func30, Tryz.ntmps30
   go_wp2_with fail
   go_ret
   exact ⟨ret_bool (by rw [decide_eq_false HN.out]), Below.refl _ _⟩
def funD (l : List FuR) : List PFun := l.map FuR.data
theorem funD_len (l : List FuR) : (funD l).length = l.length := List.length_map ..
theorem funD_at {l : List FuR} {k : Nat} (h : k < l.length) : (funD l).getD k default = (l.getD k default).data := map_getD FuR.data l h
def sameB (p o : PrR) : Bool := decide (tbl p.types = tbl o.types) && decide (funD p.funs = funD o.funs)
theorem same_data {p o : PrR} : sameB p o = true ↔ p.data = o.data := by
 unfold sameB
 rw [Bool.and_eq_true, decide_eq_true_eq, decide_eq_true_eq]
 constructor
 · rintro ⟨h1, h2⟩
   show (⟨tbl p.types, funD p.funs⟩ : PProg) = ⟨tbl o.types, funD o.funs⟩
   rw [h1, h2]
 · intro h
   have h' : (⟨tbl p.types, funD p.funs⟩ : PProg) = ⟨tbl o.types, funD o.funs⟩ := h
   injection h' with h1 h2
   exact ⟨h1, h2⟩
theorem rsameT_is {w : World} {A A' : Option Addr} {c c' : Nat} {xs ys : List TyR} (h : TabIn w A c xs) (h' : TabIn w A' c' ys) {b : Bool} (hb : decide (tbl xs = tbl ys) = b) :
 Calls Tryz.prog 29 #[.slice A xs.length c, .slice A' ys.length c'] w fun e w' => e = .returned (.bool b) ∧ Below w.heap.size w w' := hb ▸ rsame_any h h'
theorem rsameBlocks_is {w : World} {A A' : Option Addr} {c c' : Nat} {xs ys : List BlR} (h : BlksAt w A c xs) (h' : BlksAt w A' c' ys) {b : Bool} (hb : decide (blkD xs = blkD ys) = b) :
 Calls Tryz.prog 30 #[.slice A xs.length c, .slice A' ys.length c'] w fun e w' => e = .returned (.bool b) ∧ Below w.heap.size w w' := hb ▸ rsameBlocks_any h h'
set_option maxRecDepth 100000 in
set_option maxHeartbeats 3200000 in
theorem rsame6_any {w : World} {p o : PrR} (h : ProgIn w p) (h' : ProgIn w o) :
 Calls Tryz.prog 12 #[p.val, o.val] w fun e w' => e = .returned (.bool (sameB p o)) ∧ Below w.heap.size w w' := by
 have hl := h.funs.hdr.cle
 have hl' := h'.funs.hdr.cle
 have HX := Lib.hid h
 have HY := Lib.hid h'
 obtain ⟨z, hz⟩ : ∃ z, decide (tbl p.types = tbl o.types) = z := ⟨_, rfl⟩
 have HTS := Lib.hid (fun W (hb : Below w.heap.size w W) => rsameT_is (h.on hb).types (h'.on hb).types hz)
 have HZ := Lib.hid hz
 clear h h' hz
 obtain ⟨ta, tc, types, fa, fc, xs⟩ := p
 obtain ⟨ta', tc', types', fa', fc', ys⟩ := o
 unfold PrR.val at *
 dsimp only at *
 have HW : Hid (Two w ((w.alloc (.cells #[.slice ta types.length tc, .slice fa xs.length fc] 25)).alloc (.cells #[.slice ta' types'.length tc', .slice fa' ys.length fc'] 25)) 25 w.heap.size (w.heap.size + 1) #[.slice ta types.length tc, .slice fa xs.length fc] #[.slice ta' types'.length tc', .slice fa' ys.length fc']) :=
  Lib.hid ⟨(Blk.new _ _ _).alloc _, Blk.new2 _ _ _ _, ((Below.refl _ _).alloc (Nat.le_refl _) _).alloc (by rw [World.size_alloc]; omega) _⟩
 by_cases hlen : xs.length = ys.length
 · have q : (xs.length : Int) = ys.length := by omega
   clear hlen
   go_enter Tryz.func12, Tryz.ntmps12
   go_wp2_with fail
   refine (HTS.out _ HW.out.below).mono ?_
   rintro e w1 ⟨rfl, hb1⟩
   have HW1 := Lib.hid (HW.out.on hb1)
   clear hb1
   cases z with
   | false =>
     go_wp2_with fail
     go_ret
     exact ⟨ret_bool (by unfold sameB; rw [HZ.out]; rfl), HW1.out.below⟩
   | true =>
     go_wp2_with fail
     go_loopw [5] (fun i wr => ∃ k : Nat, k ≤ xs.length ∧ i = .int .i64 k ∧ Hid ((funD xs).take k = (funD ys).take k) ∧ Hid (Two w wr 25 w.heap.size (w.heap.size + 1) #[.slice ta types.length tc, .slice fa xs.length fc] #[.slice ta' types'.length tc', .slice fa' ys.length fc'])) (fun i _ => xs.length - (intOf i).toNat)
     case atStart => exact ⟨0, Nat.zero_le _, rfl, Lib.hid rfl, HW1⟩
     case round =>
      obtain ⟨k, hk, rfl, HT, HW2⟩ := hrel
      have HB := Lib.hid HW2.out.below
      have x0 := HW2.out.x.cells 0
      have x1 := HW2.out.x.cells 1
      have y0 := HW2.out.y.cells 0
      have y1 := HW2.out.y.cells 1
      by_cases hlt : k < xs.length
      · have hlt' : k < ys.length := by omega
        obtain ⟨b, off, r, rfl, hb, ⟨d0, d1⟩, hr, HE⟩ := (HX.out.funs.on HB.out).elem hlt
        obtain ⟨b', off', r', rfl, hb', ⟨d0', d1'⟩, hr', HE'⟩ := (HY.out.funs.on HB.out).elem hlt'
        have HNE : Hid (r.data ≠ r'.data → funD xs ≠ funD ys) := Lib.hid (fun hn => ne_of_getD (d := default) (k := k) (by rw [funD_at hlt, funD_at hlt', HE.out, HE'.out]; exact hn))
        have HEQ : Hid (r.data = r'.data → (funD xs).take (k + 1) = (funD ys).take (k + 1)) := Lib.hid (fun he => take_eq_succ (d := default) HT.out (by rw [funD_len]; exact hlt) (by rw [funD_len]; exact hlt') (by rw [funD_at hlt, funD_at hlt', HE.out, HE'.out]; exact he))
        have hk0 : (0 : Int) ≤ (k : Int) := Int.natCast_nonneg _
        have hk1 : (k : Int) < (xs.length : Int) := by omega
        have hk2 : (k : Int) < (ys.length : Int) := by omega
        have HLT := Lib.hid hlt
        have HR := Lib.hid hr
        have HR' := Lib.hid hr'
        obtain ⟨sig, ba, bc, bls⟩ := r
        obtain ⟨sig', ba', bc', bls'⟩ := r'
        dsimp only at *
        obtain ⟨u, hu⟩ : ∃ u, decide (blkD bls = blkD bls') = u := ⟨_, rfl⟩
        have HC := Lib.hid (fun W (hw : Below wr.heap.size wr W) => rsameBlocks_is (HR.out.blocks.on hw) (HR'.out.blocks.on hw) hu)
        have HU := Lib.hid hu
        clear hr hr' hlt hlt' HE HE' hu
        by_cases e0 : sig = sig'
        · subst e0
          cases u
          all_goals
           go_wp2_with fail
           refine wp_region_off (by kernel_rfl) (by kernel_rfl) ?_
           rintro W rfl
           have ox1 := fun m => Off.at x1 m
           have oy1 := fun m => Off.at y1 m
           have oc0 := fun m => Off.at d0 m
           have oc1 := fun m => Off.at d1 m
           have pc0 := fun m => Off.at d0' m
           have pc1 := fun m => Off.at d1' m
           repeat (go_big_quiet_step ((go_at_call 30; exact Calls.off (HC.out _ (Off.below _)))))
           refine wpQuiet_nil ?_
           intro w2 hw2
           obtain ⟨⟨w2, hb2⟩, rfl⟩ := hw2
           have HW3 := Lib.hid (HW2.out.on hb2)
           clear hb2 ox1 oy1 oc0 oc1 pc0 pc1 d0 d1 d0' d1' x0 x1 y0 y1
           go_wp2_with fail
          · have HN := Lib.hid (HNE.out (fun h => by injection h with _ h; exact of_decide_eq_false HU.out h))
            go_ret
            exact ⟨ret_bool (by unfold sameB; rw [decide_eq_false HN.out, Bool.and_false]), HW3.out.below⟩
          · have HE2 := Lib.hid (HEQ.out (by
             show (⟨sig, blkD bls⟩ : PFun) = ⟨sig, blkD bls'⟩
             rw [of_decide_eq_true HU.out]))
            go_roundw
            case rel => exact ⟨k + 1, by have := HLT.out; omega, by go_num, HE2, HW3⟩
            case measure => simp [intOf]; have := HLT.out; omega
        · have ez := ne_bool e0
          have E0 := Lib.hid e0
          clear e0
          have HN := Lib.hid (HNE.out (fun h => by injection h with h _; exact E0.out h))
          go_wp2_with fail
          refine wp_region_off (by kernel_rfl) (by kernel_rfl) ?_
          rintro W rfl
          have ox1 := fun m => Off.at x1 m
          have oy1 := fun m => Off.at y1 m
          have oc0 := fun m => Off.at d0 m
          have oc1 := fun m => Off.at d1 m
          have pc0 := fun m => Off.at d0' m
          have pc1 := fun m => Off.at d1' m
          repeat (go_big_quiet_step (fail))
          refine wpQuiet_nil ?_
          intro w2 hw2
          obtain ⟨⟨w2, hb2⟩, rfl⟩ := hw2
          have HW3 := Lib.hid (HW2.out.on hb2)
          clear hb2 ox1 oy1 oc0 oc1 pc0 pc1 d0 d1 d0' d1' x0 x1 y0 y1
          go_wp2_with fail
          go_ret
          exact ⟨ret_bool (by unfold sameB; rw [decide_eq_false HN.out, Bool.and_false]), HW3.out.below⟩
      · have HE2 : Hid (funD xs = funD ys) := Lib.hid (by have := HT.out; rwa [List.take_of_length_le (by rw [funD_len]; omega), List.take_of_length_le (by rw [funD_len]; omega)] at this)
        go_wp2_with fail
        go_ret
        exact ⟨ret_bool (by unfold sameB; rw [HZ.out, decide_eq_true HE2.out]; rfl), HB.out⟩
 · have q : ((xs.length : Int) != ys.length) = true := bne_iff_ne.2 (by omega)
   have HN : Hid (funD xs ≠ funD ys) := Lib.hid (fun h => hlen (by rw [← funD_len xs, h, funD_len]))
   clear hlen
   go_enter Tryz.func12, Tryz.ntmps12
   go_wp2_with fail
   go_ret
   exact ⟨ret_bool (by unfold sameB; rw [decide_eq_false HN.out, Bool.and_false]), HW.out.below⟩
end Go.Proofs.YtbffebcjimhapaaGreatDoor
