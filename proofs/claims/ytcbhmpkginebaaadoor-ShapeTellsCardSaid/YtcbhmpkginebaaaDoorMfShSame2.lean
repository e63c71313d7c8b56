/-
  The reference's words for whether two lists of blocks, and two programs, are the same.
-/
import Derived.Test.YtcbhmpkginebaaaDoorMg14
import Derived.Test.YtcbhmpkginebaaaDoorMfShSame1
import Derived.Test.YtcbhmpkginebaaaDoorMfTypSame
namespace Go.Proofs.YtcbhmpkginebaaaDoor
set_option linter.unusedVariables false
set_option linter.unusedSimpArgs false
open Go.ChangeShapes Go.WideShapes Go.ChangeAt Go.RowKit

theorem seqEnd4 (k k' : Nat) (a t e a' t' e' : Int) (w : World) : (Op.equalIn 10000 26 (.agg #[.int .u8 k, .int .i64 a, .int .i64 t, .int .i64 e]) (.agg #[.int .u8 k', .int .i64 a', .int .i64 t', .int .i64 e'])).run Tryd.prog w = .ok (decide ((⟨k, a, t, e⟩ : PEnd) = ⟨k', a', t', e'⟩)) w := by
  have u0 := Tryd.underlying5
  have u2 := Tryd.underlying3
  have hS : Tryd.prog.underlying 26 = some (.struct (Tryd.prog.fieldsOf 26)) := by kernel_rfl
  rw [show (10000 : Nat) = 9999 + 1 from rfl, run_equalIn_agg w 9999 26 _ _ hS (by kernel_rfl)]
  simp only [Program.fieldsOf, Tryd.underlying26]
  go_simp
  by_cases h1 : k = k' <;> by_cases h2 : a = a' <;> by_cases h3 : t = t' <;> by_cases h4 : e = e' <;> simp [h1, h2, h3, h4] <;> omega
theorem seqEnd_is {k k' : Nat} {a t e a' t' e' : Int} {b : Bool} (h : decide ((⟨k, a, t, e⟩ : PEnd) = ⟨k', a', t', e'⟩) = b) (w : World) : (Op.equalIn 10000 26 (.agg #[.int .u8 k, .int .i64 a, .int .i64 t, .int .i64 e]) (.agg #[.int .u8 k', .int .i64 a', .int .i64 t', .int .i64 e'])).run Tryd.prog w = .ok b w := h ▸ seqEnd4 k k' a t e a' t' e' w
def blkD (l : List BlR) : List PBlk := l.map BlR.data
theorem blkD_len (l : List BlR) : (blkD l).length = l.length := List.length_map ..
theorem blkD_at {l : List BlR} {k : Nat} (h : k < l.length) : (blkD l).getD k default = (l.getD k default).data := map_getD BlR.data l h
theorem rsameIns_is {w : World} {A A' : Option Addr} {c c' : Nat} {xs ys : List InR} (h : InsAt w A c xs) (h' : InsAt w A' c' ys) {b : Bool} (hb : decide (insD xs = insD ys) = b) :
    Calls Tryd.prog 69 #[.slice A xs.length c, .slice A' ys.length c'] w fun e w' => e = .returned (.bool b) ∧ Below w.heap.size w w' := hb ▸ rsameIns_any h h'
set_option maxRecDepth 100000 in
set_option maxHeartbeats 3200000 in
theorem rsameBlocks_any {w : World} {A A' : Option Addr} {c c' : Nat} {xs ys : List BlR} (h : BlksAt w A c xs) (h' : BlksAt w A' c' ys) :
    Calls Tryd.prog 47 #[.slice A xs.length c, .slice A' ys.length c'] w fun e w' => e = .returned (.bool (decide (blkD xs = blkD ys))) ∧ Below w.heap.size w w' := by
  have hl := h.hdr.cle
  have hl' := h'.hdr.cle
  have HX := Lib.hid h
  have HY := Lib.hid h'
  clear h h'
  by_cases hlen : xs.length = ys.length
  · have q : (xs.length : Int) = ys.length := by omega
    clear hlen
    go_enter Tryd.func47, Tryd.ntmps47
    go_wp2_with fail
    go_loopw [5] (fun i wr => ∃ k : Nat, k ≤ xs.length ∧ i = .int .i64 k ∧ Hid ((blkD xs).take k = (blkD ys).take k) ∧ Hid (Below w.heap.size w wr)) (fun i _ => xs.length - (intOf i).toNat)
    case atStart => exact ⟨0, Nat.zero_le _, rfl, Lib.hid rfl, Lib.hid (Below.refl _ _)⟩
    case round =>
      obtain ⟨k, hk, rfl, HT, HB⟩ := hrel
      by_cases hlt : k < xs.length
      · have hlt' : k < ys.length := by omega
        obtain ⟨b, off, r, rfl, hb, ⟨d0, d1, d2, d3, d4⟩, hr, HE⟩ := (HX.out.on HB.out).elem hlt
        obtain ⟨b', off', r', rfl, hb', ⟨d0', d1', d2', d3', d4'⟩, hr', HE'⟩ := (HY.out.on HB.out).elem hlt'
        have HNE : Hid (r.data ≠ r'.data → blkD xs ≠ blkD ys) := Lib.hid (fun hn => ne_of_getD (d := default) (k := k) (by rw [blkD_at hlt, blkD_at hlt', HE.out, HE'.out]; exact hn))
        have HEQ : Hid (r.data = r'.data → (blkD xs).take (k + 1) = (blkD ys).take (k + 1)) := Lib.hid (fun he => take_eq_succ (d := default) HT.out (by rw [blkD_len]; exact hlt) (by rw [blkD_len]; exact hlt') (by rw [blkD_at hlt, blkD_at hlt', HE.out, HE'.out]; exact he))
        have hk0 : (0 : Int) ≤ (k : Int) := Int.natCast_nonneg _
        have hk1 : (k : Int) < (xs.length : Int) := by omega
        have hk2 : (k : Int) < (ys.length : Int) := by omega
        have HLT := Lib.hid hlt
        have HR := Lib.hid hr
        have HR' := Lib.hid hr'
        obtain ⟨ia, ic, ins, kd, ea, et, el⟩ := r
        obtain ⟨ia', ic', ins', kd', ea', et', el'⟩ := r'
        dsimp only at *
        obtain ⟨z, hz⟩ : ∃ z, decide (insD ins = insD ins') = z := ⟨_, rfl⟩
        have HC := Lib.hid (fun W (hw : Below wr.heap.size wr W) => rsameIns_is (HR.out.ins.on hw) (HR'.out.ins.on hw) hz)
        have HZ := Lib.hid hz
        clear hr hr' hlt hlt' HE HE' hz
        cases hq : decide ((⟨kd, ea, et, el⟩ : PEnd) = ⟨kd', ea', et', el'⟩) with
        | false =>
          have qe := seqEnd_is hq
          have HQ := Lib.hid hq
          have HN := Lib.hid (HNE.out (fun h => by injection h with _ h; exact of_decide_eq_false HQ.out h))
          clear hq
          go_wp2_with fail
          refine wp_region_off (by kernel_rfl) (by kernel_rfl) ?_
          rintro W rfl
          have oc1 := fun m => Off.at d1 m
          have oc2 := fun m => Off.at d2 m
          have oc3 := fun m => Off.at d3 m
          have oc4 := fun m => Off.at d4 m
          have pc1 := fun m => Off.at d1' m
          have pc2 := fun m => Off.at d2' m
          have pc3 := fun m => Off.at d3' m
          have pc4 := fun m => Off.at d4' m
          repeat (go_big_quiet_step (fail))
          refine wpQuiet_nil ?_
          intro w2 hw2
          obtain ⟨⟨w2, hb2⟩, rfl⟩ := hw2
          have HB2 := Lib.hid (HB.out.trans (hb2.mono HB.out.size))
          clear hb2 oc1 oc2 oc3 oc4 pc1 pc2 pc3 pc4 d0 d1 d2 d3 d4 d0' d1' d2' d3' d4' qe
          go_wp2_with fail
          go_ret
          exact ⟨ret_bool (by rw [decide_eq_false HN.out]), HB2.out⟩
        | true =>
          have qe := seqEnd_is hq
          have HQ := Lib.hid hq
          clear hq
          cases z
          all_goals
            go_wp2_with fail
            refine wp_region_off (by kernel_rfl) (by kernel_rfl) ?_
            rintro W rfl
            have oc0 := fun m => Off.at d0 m
            have oc1 := fun m => Off.at d1 m
            have oc2 := fun m => Off.at d2 m
            have oc3 := fun m => Off.at d3 m
            have oc4 := fun m => Off.at d4 m
            have pc0 := fun m => Off.at d0' m
            have pc1 := fun m => Off.at d1' m
            have pc2 := fun m => Off.at d2' m
            have pc3 := fun m => Off.at d3' m
            have pc4 := fun m => Off.at d4' m
            repeat (go_big_quiet_step ((go_at_call 69; exact Calls.off (HC.out _ (Off.below _)))))
            refine wpQuiet_nil ?_
            intro w2 hw2
            obtain ⟨⟨w2, hb2⟩, rfl⟩ := hw2
            have HB2 := Lib.hid (HB.out.trans (hb2.mono HB.out.size))
            clear hb2 oc0 oc1 oc2 oc3 oc4 pc0 pc1 pc2 pc3 pc4 d0 d1 d2 d3 d4 d0' d1' d2' d3' d4' qe
            go_wp2_with fail
          · have HN := Lib.hid (HNE.out (fun h => by injection h with h _; exact of_decide_eq_false HZ.out h))
            go_ret
            exact ⟨ret_bool (by rw [decide_eq_false HN.out]), HB2.out⟩
          · have HE2 := Lib.hid (HEQ.out (by
              show (⟨insD ins, ⟨kd, ea, et, el⟩⟩ : PBlk) = ⟨insD ins', ⟨kd', ea', et', el'⟩⟩
              rw [of_decide_eq_true HQ.out, of_decide_eq_true HZ.out]))
            go_roundw
            case rel => exact ⟨k + 1, by have := HLT.out; omega, by go_num, HE2, HB2⟩
            case measure => simp [intOf]; have := HLT.out; omega
      · go_wp2_with fail
        go_ret
        exact ⟨ret_bool (by rw [decide_eq_true]; have := HT.out; rwa [List.take_of_length_le (by rw [blkD_len]; omega), List.take_of_length_le (by rw [blkD_len]; omega)] at this), HB.out⟩
  · have q : ¬ (xs.length : Int) = ys.length := by omega
    have HN : Hid (blkD xs ≠ blkD ys) := Lib.hid (fun h => hlen (by rw [← blkD_len xs, h, blkD_len]))
    clear hlen
    go_enter Tryd.func47, Tryd.ntmps47
    go_wp2_with fail
    go_ret
    exact ⟨ret_bool (by rw [decide_eq_false HN.out]), Below.refl _ _⟩
def funD (l : List FuR) : List PFun := l.map FuR.data
theorem funD_len (l : List FuR) : (funD l).length = l.length := List.length_map ..
theorem funD_at {l : List FuR} {k : Nat} (h : k < l.length) : (funD l).getD k default = (l.getD k default).data := map_getD FuR.data l h
/-- Do two programs tell the same? -/
def sameB (p o : PrR) : Bool := decide (tbl p.types = tbl o.types) && decide (funD p.funs = funD o.funs)
theorem same_data {p o : PrR} : sameB p o = true ↔ p.data = o.data := by
  unfold sameB
  rw [Bool.and_eq_true, decide_eq_true_eq, decide_eq_true_eq]
  constructor
  · rintro ⟨h1, h2⟩
    show (⟨tbl p.types, funD p.funs⟩ : PProg) = ⟨tbl o.types, funD o.funs⟩
    rw [h1, h2]
  · intro h
    have h' : (⟨tbl p.types, funD p.funs⟩ : PProg) = ⟨tbl o.types, funD o.funs⟩ := h
    injection h' with h1 h2
    exact ⟨h1, h2⟩
theorem rsameT_is {w : World} {A A' : Option Addr} {c c' : Nat} {xs ys : List TyR} (h : TabIn w A c xs) (h' : TabIn w A' c' ys) {b : Bool} (hb : decide (tbl xs = tbl ys) = b) :
    Calls Tryd.prog 46 #[.slice A xs.length c, .slice A' ys.length c'] w fun e w' => e = .returned (.bool b) ∧ Below w.heap.size w w' := hb ▸ rsame_any h h'
theorem rsameBlocks_is {w : World} {A A' : Option Addr} {c c' : Nat} {xs ys : List BlR} (h : BlksAt w A c xs) (h' : BlksAt w A' c' ys) {b : Bool} (hb : decide (blkD xs = blkD ys) = b) :
    Calls Tryd.prog 47 #[.slice A xs.length c, .slice A' ys.length c'] w fun e w' => e = .returned (.bool b) ∧ Below w.heap.size w w' := hb ▸ rsameBlocks_any h h'
set_option maxRecDepth 100000 in
set_option maxHeartbeats 3200000 in
theorem rsame6_any {w : World} {p o : PrR} (h : ProgIn w p) (h' : ProgIn w o) :
    Calls Tryd.prog 23 #[p.val, o.val] w fun e w' => e = .returned (.bool (sameB p o)) ∧ Below w.heap.size w w' := by
  have hl := h.funs.hdr.cle
  have hl' := h'.funs.hdr.cle
  have HX := Lib.hid h
  have HY := Lib.hid h'
  obtain ⟨z, hz⟩ : ∃ z, decide (tbl p.types = tbl o.types) = z := ⟨_, rfl⟩
  have HTS := Lib.hid (fun W (hb : Below w.heap.size w W) => rsameT_is (h.on hb).types (h'.on hb).types hz)
  have HZ := Lib.hid hz
  clear h h' hz
  obtain ⟨ta, tc, types, fa, fc, xs⟩ := p
  obtain ⟨ta', tc', types', fa', fc', ys⟩ := o
  unfold PrR.val at *
  dsimp only at *
  have HW : Hid (Two w ((w.alloc (.cells #[.slice ta types.length tc, .slice fa xs.length fc] 35)).alloc (.cells #[.slice ta' types'.length tc', .slice fa' ys.length fc'] 35)) 35 w.heap.size (w.heap.size + 1) #[.slice ta types.length tc, .slice fa xs.length fc] #[.slice ta' types'.length tc', .slice fa' ys.length fc']) :=
    Lib.hid ⟨(Blk.new _ _ _).alloc _, Blk.new2 _ _ _ _, ((Below.refl _ _).alloc (Nat.le_refl _) _).alloc (by rw [World.size_alloc]; omega) _⟩
  by_cases hlen : xs.length = ys.length
  · have q : (xs.length : Int) = ys.length := by omega
    clear hlen
    go_enter Tryd.func23, Tryd.ntmps23
    go_wp2_with fail
    refine (HTS.out _ HW.out.below).mono ?_
    rintro e w1 ⟨rfl, hb1⟩
    have HW1 := Lib.hid (HW.out.on hb1)
    clear hb1
    cases z with
    | false =>
      go_wp2_with fail
      go_ret
      exact ⟨ret_bool (by unfold sameB; rw [HZ.out]; rfl), HW1.out.below⟩
    | true =>
      go_wp2_with fail
      go_loopw [5] (fun i wr => ∃ k : Nat, k ≤ xs.length ∧ i = .int .i64 k ∧ Hid ((funD xs).take k = (funD ys).take k) ∧ Hid (Two w wr 35 w.heap.size (w.heap.size + 1) #[.slice ta types.length tc, .slice fa xs.length fc] #[.slice ta' types'.length tc', .slice fa' ys.length fc'])) (fun i _ => xs.length - (intOf i).toNat)
      case atStart => exact ⟨0, Nat.zero_le _, rfl, Lib.hid rfl, HW1⟩
      case round =>
        obtain ⟨k, hk, rfl, HT, HW2⟩ := hrel
        have HB := Lib.hid HW2.out.below
        have x0 := HW2.out.x.cells 0
        have x1 := HW2.out.x.cells 1
        have y0 := HW2.out.y.cells 0
        have y1 := HW2.out.y.cells 1
        by_cases hlt : k < xs.length
        · have hlt' : k < ys.length := by omega
          obtain ⟨b, off, r, rfl, hb, ⟨d0, d1⟩, hr, HE⟩ := (HX.out.funs.on HB.out).elem hlt
          obtain ⟨b', off', r', rfl, hb', ⟨d0', d1'⟩, hr', HE'⟩ := (HY.out.funs.on HB.out).elem hlt'
          have HNE : Hid (r.data ≠ r'.data → funD xs ≠ funD ys) := Lib.hid (fun hn => ne_of_getD (d := default) (k := k) (by rw [funD_at hlt, funD_at hlt', HE.out, HE'.out]; exact hn))
          have HEQ : Hid (r.data = r'.data → (funD xs).take (k + 1) = (funD ys).take (k + 1)) := Lib.hid (fun he => take_eq_succ (d := default) HT.out (by rw [funD_len]; exact hlt) (by rw [funD_len]; exact hlt') (by rw [funD_at hlt, funD_at hlt', HE.out, HE'.out]; exact he))
          have hk0 : (0 : Int) ≤ (k : Int) := Int.natCast_nonneg _
          have hk1 : (k : Int) < (xs.length : Int) := by omega
          have hk2 : (k : Int) < (ys.length : Int) := by omega
          have HLT := Lib.hid hlt
          have HR := Lib.hid hr
          have HR' := Lib.hid hr'
          obtain ⟨sig, ba, bc, bls⟩ := r
          obtain ⟨sig', ba', bc', bls'⟩ := r'
          dsimp only at *
          obtain ⟨u, hu⟩ : ∃ u, decide (blkD bls = blkD bls') = u := ⟨_, rfl⟩
          have HC := Lib.hid (fun W (hw : Below wr.heap.size wr W) => rsameBlocks_is (HR.out.blocks.on hw) (HR'.out.blocks.on hw) hu)
          have HU := Lib.hid hu
          clear hr hr' hlt hlt' HE HE' hu
          by_cases e0 : sig = sig'
          · subst e0
            cases u
            all_goals
              go_wp2_with fail
              refine wp_region_off (by kernel_rfl) (by kernel_rfl) ?_
              rintro W rfl
              have ox1 := fun m => Off.at x1 m
              have oy1 := fun m => Off.at y1 m
              have oc0 := fun m => Off.at d0 m
              have oc1 := fun m => Off.at d1 m
              have pc0 := fun m => Off.at d0' m
              have pc1 := fun m => Off.at d1' m
              repeat (go_big_quiet_step ((go_at_call 47; exact Calls.off (HC.out _ (Off.below _)))))
              refine wpQuiet_nil ?_
              intro w2 hw2
              obtain ⟨⟨w2, hb2⟩, rfl⟩ := hw2
              have HW3 := Lib.hid (HW2.out.on hb2)
              clear hb2 ox1 oy1 oc0 oc1 pc0 pc1 d0 d1 d0' d1' x0 x1 y0 y1
              go_wp2_with fail
            · have HN := Lib.hid (HNE.out (fun h => by injection h with _ h; exact of_decide_eq_false HU.out h))
              go_ret
              exact ⟨ret_bool (by unfold sameB; rw [decide_eq_false HN.out, Bool.and_false]), HW3.out.below⟩
            · have HE2 := Lib.hid (HEQ.out (by
                show (⟨sig, blkD bls⟩ : PFun) = ⟨sig, blkD bls'⟩
                rw [of_decide_eq_true HU.out]))
              go_roundw
              case rel => exact ⟨k + 1, by have := HLT.out; omega, by go_num, HE2, HW3⟩
              case measure => simp [intOf]; have := HLT.out; omega
          · have ez := ne_bool e0
            have E0 := Lib.hid e0
            clear e0
            have HN := Lib.hid (HNE.out (fun h => by injection h with h _; exact E0.out h))
            go_wp2_with fail
            refine wp_region_off (by kernel_rfl) (by kernel_rfl) ?_
            rintro W rfl
            have ox1 := fun m => Off.at x1 m
            have oy1 := fun m => Off.at y1 m
            have oc0 := fun m => Off.at d0 m
            have oc1 := fun m => Off.at d1 m
            have pc0 := fun m => Off.at d0' m
            have pc1 := fun m => Off.at d1' m
            repeat (go_big_quiet_step (fail))
            refine wpQuiet_nil ?_
            intro w2 hw2
            obtain ⟨⟨w2, hb2⟩, rfl⟩ := hw2
            have HW3 := Lib.hid (HW2.out.on hb2)
            clear hb2 ox1 oy1 oc0 oc1 pc0 pc1 d0 d1 d0' d1' x0 x1 y0 y1
            go_wp2_with fail
            go_ret
            exact ⟨ret_bool (by unfold sameB; rw [decide_eq_false HN.out, Bool.and_false]), HW3.out.below⟩
        · have HE2 : Hid (funD xs = funD ys) := Lib.hid (by have := HT.out; rwa [List.take_of_length_le (by rw [funD_len]; omega), List.take_of_length_le (by rw [funD_len]; omega)] at this)
          go_wp2_with fail
          go_ret
          exact ⟨ret_bool (by unfold sameB; rw [HZ.out, decide_eq_true HE2.out]; rfl), HB.out⟩
  · have q : ((xs.length : Int) != ys.length) = true := bne_iff_ne.2 (by omega)
    have HN : Hid (funD xs ≠ funD ys) := Lib.hid (fun h => hlen (by rw [← funD_len xs, h, funD_len]))
    clear hlen
    go_enter Tryd.func23, Tryd.ntmps23
    go_wp2_with fail
    go_ret
    exact ⟨ret_bool (by unfold sameB; rw [decide_eq_false HN.out, Bool.and_false]), HW.out.below⟩
end Go.Proofs.YtcbhmpkginebaaaDoor
