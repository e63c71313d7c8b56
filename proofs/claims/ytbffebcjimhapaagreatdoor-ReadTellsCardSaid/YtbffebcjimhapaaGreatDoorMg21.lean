/-
  The reference's words for shapes: are numbers below one; how many instructions; how many parameters; may a number be; may an end be. And what stands on it: ShRef2.
-/
import Derived.Test.YtbffebcjimhapaaGreatDoorMg6
import Derived.Test.YtbffebcjimhapaaGreatDoorMg7
import Derived.Outline
namespace Go.Proofs.YtbffebcjimhapaaGreatDoor
set_option linter.unusedVariables false
set_option linter.unusedSimpArgs false
open Go.ChangeShapes Go.WideShapes Go.ChangeAt Go.RowKit
def inP (m : Int) (n : Int) : Bool := inB n m
theorem rbelow_any {w : World} {lo B : Nat} {A : Option Addr} {c : Nat} {xs : List Int} (hh : Hdr A xs.length c) (hx : IntsAt w lo B A xs) (m : Int) :
 Calls Tryz.prog 146 #[.slice A xs.length c, .int .i64 m] w fun e w' => e = .returned (.bool (allB xs m)) ∧ w = w' := by
 have hl := Nat.le_trans hh.fit hh.cap
 unfold maxLen at hl
 have HX := Lib.hid hx
 clear hx hh
 go_enter Tryz.func146, Tryz.ntmps146
 go_wp2_with fail
 go_loop [5] (fun i => ∃ k : Nat, k ≤ xs.length ∧ i = .int .i64 k ∧ AllTo (inP m) xs k) (fun i => xs.length - (intOf i).toNat)
 case atStart => exact ⟨0, Nat.zero_le _, rfl, AllTo.zero _ _⟩
 case round =>
  obtain ⟨k, hk, rfl, hall⟩ := hrel
  have HA := Lib.hid hall
  clear hall
  by_cases hlt : k < xs.length
  · obtain ⟨b, off, x, rfl, hcell, HE⟩ := HX.out.cell hlt
    by_cases h0 : x < 0
    · go_wp2_with fail
      go_ret
      exact ⟨ret_bool (all_stop (d := 0) hlt (by rw [HE.out]; simp [inP, inB]; omega)).symm, rfl⟩
    · by_cases h1 : x < m
      · go_wp2_with fail
        go_round
        case rel => exact ⟨k + 1, by omega, by go_num, HA.out.step (d := 0) hlt (by rw [HE.out]; simp [inP, inB]; omega)⟩
        case measure => simp [intOf]; omega
      · go_wp2_with fail
        go_ret
        exact ⟨ret_bool (all_stop (d := 0) hlt (by rw [HE.out]; simp [inP, inB]; omega)).symm, rfl⟩
  · go_wp2_with fail
    go_ret
    exact ⟨ret_bool (HA.out.done (by omega)).symm, rfl⟩
theorem rbelow_is {w : World} {A : Option Addr} {c : Nat} {xs : List Int} (hh : Hdr A xs.length c) (hx : IntsAt w 0 w.heap.size A xs) (m : Int) {b : Bool} (hb : allB xs m = b) :
 Calls Tryz.prog 146 #[.slice A xs.length c, .int .i64 m] w fun e w' => e = .returned (.bool b) ∧ Below w.heap.size w w' := by
 refine (rbelow_any hh hx m).mono ?_
 rintro e w' ⟨rfl, rfl⟩
 exact ⟨by rw [hb], Below.refl _ _⟩
set_option maxRecDepth 100000 in
theorem rmany_any {w : World} {A : Option Addr} {c : Nat} {rows : List BlR} (h : BlksAt w A c rows) (hf : rows.length ≤ 20000) (hi : ∀ r ∈ rows, r.ins.length ≤ 1000000) :
 Calls Tryz.prog 109 #[.slice A rows.length c] w fun e w' => e = .returned (.int .i64 (manyB (rows.map BlR.data) : Nat)) ∧ Below w.heap.size w w' := by
 have HX := Lib.hid h
 have hl : (rows.length : Int) ≤ 20000 := by omega
 have HF := Lib.hid hf
 have HI := Lib.hid hi
 clear h hf hi
 go_enter Tryz.func109, Tryz.ntmps109
 go_wp2_with fail
 go_loop [3, 4] (fun v i => ∃ k n : Nat, k ≤ rows.length ∧ i = .int .i64 k ∧ v = .int .i64 n ∧ n ≤ 1000000 * k ∧ Hid (n = manyB ((rows.map BlR.data).take k))) (fun _ i => rows.length - (intOf i).toNat)
 case atStart => exact ⟨0, 0, Nat.zero_le _, rfl, rfl, Nat.zero_le _, Lib.hid rfl⟩
 case round =>
  obtain ⟨k, n, hk, rfl, rfl, hn, HN⟩ := hrel
  have hnz : (n : Int) ≤ 20000000000 := by omega
  by_cases hlt : k < rows.length
  · have hkz : (k : Int) < rows.length := by omega
    obtain ⟨b, off, r, rfl, hb, ⟨d0, _, _, _, _⟩, hr, HE⟩ := HX.out.elem hlt
    have hrl : r.ins.length ≤ 1000000 := by
     have := HI.out _ (mem_getD (d := default) hlt)
     rwa [HE.out] at this
    have hrz : (r.ins.length : Int) ≤ 1000000 := by omega
    have HM : Hid (manyB ((rows.map BlR.data).take (k + 1)) = manyB ((rows.map BlR.data).take k) + r.ins.length) := Lib.hid (by
     rw [many_take (by rw [List.length_map]; exact hlt), map_getD BlR.data rows hlt, HE.out]
     show _ + (r.ins.map InR.data).length = _
     rw [List.length_map])
    have HLT := Lib.hid hlt
    have HRL := Lib.hid hrl
    have HNN := Lib.hid hn
    clear hr hlt hrl hn
    go_wp2_with fail
    go_round
    case rel => exact ⟨k + 1, n + r.ins.length, by have := HLT.out; omega, by go_num, by go_num, by have := HRL.out; have := HNN.out; omega, Lib.hid (by rw [HM.out, HN.out])⟩
    case measure => simp [intOf]; have := HLT.out; omega
  · obtain rfl : k = rows.length := by omega
    go_wp2_with fail
    go_ret
    exact ⟨ret_num (by rw [HN.out, List.take_of_length_le (by rw [List.length_map]; exact Nat.le_refl _)]), Below.refl _ _⟩
set_option maxRecDepth 100000 in
theorem rparams_any {w : World} {p : PrR} (h : ProgIn w p) (f : FuR) (h0 : 0 ≤ f.sig) (h1 : f.sig < p.types.length) :
 Calls Tryz.prog 110 #[p.val, f.val] w fun e w' => e = .returned (.int .i64 ((p.types.getD f.sig.toNat default).parts.length : Nat)) ∧ Below w.heap.size w w' := by
 obtain ⟨k, hk⟩ : ∃ k : Nat, f.sig = k := ⟨f.sig.toNat, by omega⟩
 have hkl : k < p.types.length := by omega
 have hkz : (k : Int) < p.types.length := by omega
 have hl := h.types.len
 have H : Elem w p.ta k (p.types.getD k default) := h.types.rows.elem hkl
 obtain ⟨b, off, ha, hb, _, _, _, d3⟩ := H.at_
 have HQ : Hid ((p.types.getD f.sig.toNat default).parts.length = (p.types.getD k default).parts.length) := Lib.hid (by rw [hk, Int.toNat_natCast])
 rw [HQ.out]
 obtain ⟨r, hr⟩ : ∃ r, p.types.getD k default = r := ⟨_, rfl⟩
 rw [hr] at d3
 rw [hr]
 have hhd : r.parts.length ≤ 9223372036854775807 := by rw [← hr]; exact (h.types.rows.ok _ (mem_getD (d := default) hkl)).hdr.cle
 unfold PrR.val FuR.val
 rw [ha, hk]
 obtain ⟨ta, tc, types, fa, fc, funs⟩ := p
 dsimp only at *
 clear ha hk h H HQ hr h0 h1 hkl
 have d4 : ∀ o o2, ((w.alloc o).alloc o2).cell? ⟨b, off + k * 4 + 3, none⟩ = some (.slice r.pa r.parts.length r.pc) := fun o o2 => by
  have hb1 : Below w.heap.size w ((w.alloc o).alloc o2) := ((Below.refl _ _).alloc (Nat.le_refl _) _).alloc (by simp only [World.size_alloc]; omega) _
  exact (hb1.cell (p := ⟨b, off + k * 4 + 3, none⟩) hb).trans d3
 go_enter Tryz.func110, Tryz.ntmps110
 go_wp2_with fail
 go_ret
 exact ⟨rfl, ((Below.refl _ _).alloc (Nat.le_refl _) _).alloc (by simp only [World.size_alloc]; omega) _⟩
theorem ints_block {w : World} {g : Nat} {xs : List Int} {cs : Array Value} {t : TypeId} {fr : Nat × Nat} (hb : w.heap[g]? = some (.cells cs t fr)) (hcs : cs = (xs.map (Value.int .i64)).toArray) (hl : xs.length ≤ 1000000) : Hdr (some ⟨g, 0, none⟩) xs.length xs.length ∧ IntsAt w 0 w.heap.size (some ⟨g, 0, none⟩) xs := by
 subst hcs
 refine ⟨⟨Nat.le_refl _, by unfold maxLen; omega, fun e => by cases e⟩, fun hn => ⟨g, 0, rfl, Nat.zero_le _, (Array.getElem?_eq_some_iff.1 hb).1, fun i hi j hj => ?_⟩⟩
 obtain rfl : j = 0 := by omega
 rw [cell_of_row w g _ _ t fr hb]
 rw [show 0 + i * 1 + 0 = i by omega, List.getElem?_toArray, List.getElem?_map, List.getElem?_eq_getElem hi]
 show _ = some (Value.int .i64 (xs.getD i 0))
 rw [List.getD_eq_getElem?_getD, List.getElem?_eq_getElem hi]
 rfl
theorem heap_at (w : World) (o : Obj) (g : Nat) (h : w.heap.size = g) : (w.alloc o).heap[g]? = some o := by rw [← h]; exact heap_alloc_new w o
theorem op_is {n m : Nat} (h : n = m) : ((n : Int) == (m : Int)) = true := by rw [h]; exact beq_self_eq_true _
theorem op_no {n m : Nat} (h : n ≠ m) : ((n : Int) == (m : Int)) = false := by rw [beq_eq_false_iff_ne]; omega
def mayNB (x : PIns) (funs : Int) : Bool := numB x funs && (hasT x.op 2 || decide (x.n = 0))
theorem mayN_1 {x : PIns} {f : Int} (h : x.op = 1) : mayNB x f = true := by unfold mayNB numB hasT; rw [h]; rfl
theorem mayN_f {x : PIns} {f : Int} (h : x.op = 3 ∨ x.op = 18) : mayNB x f = inB x.n f := by
 unfold mayNB numB hasT
 rw [if_pos h]
 rcases h with h | h <;> rw [h] <;> simp
theorem mayN_p {x : PIns} {f : Int} (h : x.op = 14) : mayNB x f = inB x.n 8 := by
 unfold mayNB numB hasT
 rw [h]
 simp
theorem mayN_o {x : PIns} {f : Int} (h1 : x.op ≠ 1) (h3 : x.op ≠ 3) (h18 : x.op ≠ 18) (h14 : x.op ≠ 14) : mayNB x f = decide (x.n = 0) := by
 unfold mayNB numB hasT
 rw [if_neg (by omega), if_neg h14]
 simp [h1, h3, h18, h14]
set_option maxRecDepth 100000 in
set_option maxHeartbeats 1600000 in
theorem rmayN_any {w : World} {p : PrR} (h : ProgIn w p) (x : InR) :
 Calls Tryz.prog 147 #[p.val, x.val] w fun e w' => e = .returned (.bool (mayNB x.data p.funs.length)) ∧ Below w.heap.size w w' := by
 have hl := h.funs.hdr.cle
 have HB2 := Lib.hid (fun o o2 => (((Below.refl w.heap.size w).alloc (Nat.le_refl _) o).alloc (by simp only [World.size_alloc]; omega) o2))
 obtain ⟨b, hb⟩ : ∃ b, mayNB x.data p.funs.length = b := ⟨_, rfl⟩
 rw [hb]
 unfold PrR.val InR.val
 obtain ⟨ta, tc, types, fa, fc, funs⟩ := p
 obtain ⟨op, ty, a, bb, n, aa, ac, args, xa, xc, from_⟩ := x
 dsimp only at *
 clear h
 by_cases h1 : op = 1
 · have e1 : ((op : Int) == 1) = true := op_is h1
   have HR : Hid (b = true) := Lib.hid (hb.symm.trans (mayN_1 h1))
   clear h1 hb
   go_enter Tryz.func147, Tryz.ntmps147
   go_wp2_with fail
   go_ret
   exact ⟨ret_bool HR.out.symm, HB2.out _ _⟩
 have e1 : ((op : Int) == 1) = false := op_no h1
 by_cases h3 : op = 3 ∨ op = 18
 · have HR : Hid (b = inB n funs.length) := Lib.hid (hb.symm.trans (mayN_f h3))
   clear h1 hb
   have e3 : ((op : Int) == 3) = true ∨ ((op : Int) == 3) = false ∧ ((op : Int) == 18) = true := by
    rcases h3 with h | h
    · exact .inl (op_is h)
    · exact .inr ⟨op_no (m := 3) (by omega), op_is h⟩
   clear h3
   by_cases n0 : 0 ≤ n
   · by_cases n1 : n < funs.length
     · have HQ : Hid (b = true) := Lib.hid (by rw [HR.out, inB_iff]; exact ⟨n0, n1⟩)
       rcases e3 with e3 | ⟨e3, e4⟩
       all_goals
        go_enter Tryz.func147, Tryz.ntmps147
        go_wp2_with fail
        go_ret
        exact ⟨ret_bool HQ.out.symm, HB2.out _ _⟩
     · have HQ : Hid (b = false) := Lib.hid (by rw [HR.out, inB_not]; omega)
       rcases e3 with e3 | ⟨e3, e4⟩
       all_goals
        go_enter Tryz.func147, Tryz.ntmps147
        go_wp2_with fail
        go_ret
        exact ⟨ret_bool HQ.out.symm, HB2.out _ _⟩
   · have HQ : Hid (b = false) := Lib.hid (by rw [HR.out, inB_not]; omega)
     rcases e3 with e3 | ⟨e3, e4⟩
     all_goals
      go_enter Tryz.func147, Tryz.ntmps147
      go_wp2_with fail
      go_ret
      exact ⟨ret_bool HQ.out.symm, HB2.out _ _⟩
 have e3 : ((op : Int) == 3) = false := op_no (m := 3) (by omega)
 have e18 : ((op : Int) == 18) = false := op_no (m := 18) (by omega)
 by_cases h14 : op = 14
 · have e14 : ((op : Int) == 14) = true := op_is h14
   have HR : Hid (b = inB n 8) := Lib.hid (hb.symm.trans (mayN_p h14))
   clear h1 h3 h14 hb
   by_cases n0 : 0 ≤ n
   · by_cases n1 : n < 8
     · have HQ : Hid (b = true) := Lib.hid (by rw [HR.out, inB_iff]; exact ⟨n0, n1⟩)
       go_enter Tryz.func147, Tryz.ntmps147
       go_wp2_with fail
       go_ret
       exact ⟨ret_bool HQ.out.symm, HB2.out _ _⟩
     · have HQ : Hid (b = false) := Lib.hid (by rw [HR.out, inB_not]; omega)
       go_enter Tryz.func147, Tryz.ntmps147
       go_wp2_with fail
       go_ret
       exact ⟨ret_bool HQ.out.symm, HB2.out _ _⟩
   · have HQ : Hid (b = false) := Lib.hid (by rw [HR.out, inB_not]; omega)
     go_enter Tryz.func147, Tryz.ntmps147
     go_wp2_with fail
     go_ret
     exact ⟨ret_bool HQ.out.symm, HB2.out _ _⟩
 · have e14 : ((op : Int) == 14) = false := op_no h14
   have HR : Hid (b = decide (n = 0)) := Lib.hid (hb.symm.trans (mayN_o h1 (fun e => h3 (.inl e)) (fun e => h3 (.inr e)) h14))
   clear h1 h3 h14 hb
   by_cases n0 : n = 0
   · have HQ : Hid (b = true) := Lib.hid (by rw [HR.out]; exact decide_eq_true n0)
     subst n0
     go_enter Tryz.func147, Tryz.ntmps147
     go_wp2_with fail
     go_ret
     exact ⟨ret_bool HQ.out.symm, HB2.out _ _⟩
   · have HQ : Hid (b = false) := Lib.hid (by rw [HR.out]; exact decide_eq_false n0)
     have en : (n == 0) = false := beq_eq_false_iff_ne.2 n0
     clear n0
     go_enter Tryz.func147, Tryz.ntmps147
     go_wp2_with fail
     go_ret
     exact ⟨ret_bool HQ.out.symm, HB2.out _ _⟩
def endVal (x : PEnd) : Value := .agg #[.int .u8 x.kind, .int .i64 x.a, .int .i64 x.to, .int .i64 x.els]
theorem all1 (x m : Int) : allB [x] m = inB x m := by unfold allB; simp
theorem all2 (x y m : Int) : allB [x, y] m = (inB x m && inB y m) := by unfold allB; simp
set_option maxRecDepth 100000 in
set_option maxHeartbeats 3200000 in
theorem rmayEnd_any {w : World} (x : PEnd) (regs many : Int) :
 Calls Tryz.prog 112 #[endVal x, .int .i64 regs, .int .i64 many] w fun e w' => e = .returned (.bool (endB x regs many)) ∧ Below w.heap.size w w' := by
 obtain ⟨b, hb⟩ : ∃ b, endB x regs many = b := ⟨_, rfl⟩
 rw [hb]
 unfold endVal
 obtain ⟨kind, a, to, els⟩ := x
 unfold endB at hb
 dsimp only at *
 obtain ⟨W, hW⟩ : ∃ W, w.alloc (.cells #[.int .u8 kind, .int .i64 a, .int .i64 to, .int .i64 els] 69) = W := ⟨_, rfl⟩
 have one : ∀ (W : World) (g : Nat), W.heap.size = g → ∀ (y m : Int) (c : Bool), inB y m = c → Calls Tryz.prog 146 #[.slice (some ⟨g, 0, none⟩) 1 1, .int .i64 m] (W.alloc (.cells #[.int .i64 y] 3)) fun e w' => e = .returned (.bool c) ∧ Below W.heap.size W w' := fun W g hg y m c hc => by
  subst hg
  obtain ⟨i1, i2⟩ := ints_block (xs := [y]) (heap_at W (.cells #[.int .i64 y] 3) _ rfl) rfl (by show 1 ≤ 1000000; omega)
  refine (rbelow_is i1 i2 m ((all1 y m).trans hc)).mono ?_
  rintro e w' ⟨rfl, hb⟩
  exact ⟨rfl, ((Below.refl _ _).alloc (Nat.le_refl _) _).trans (hb.mono (by rw [World.size_alloc]; omega))⟩
 have two : ∀ (W : World) (g : Nat), W.heap.size = g → ∀ (y z m : Int) (c : Bool), (inB y m && inB z m) = c → Calls Tryz.prog 146 #[.slice (some ⟨g, 0, none⟩) 2 2, .int .i64 m] (W.alloc (.cells #[.int .i64 y, .int .i64 z] 3)) fun e w' => e = .returned (.bool c) ∧ Below W.heap.size W w' := fun W g hg y z m c hc => by
  subst hg
  obtain ⟨i1, i2⟩ := ints_block (xs := [y, z]) (heap_at W (.cells #[.int .i64 y, .int .i64 z] 3) _ rfl) rfl (by show 2 ≤ 1000000; omega)
  refine (rbelow_is i1 i2 m ((all2 y z m).trans hc)).mono ?_
  rintro e w' ⟨rfl, hb⟩
  exact ⟨rfl, ((Below.refl _ _).alloc (Nat.le_refl _) _).trans (hb.mono (by rw [World.size_alloc]; omega))⟩
 have ONE := Lib.hid one
 have TWO := Lib.hid two
 clear one two hW W
 have HB1 := Lib.hid (fun o => (Below.refl w.heap.size w).alloc (Nat.le_refl _) o)
 by_cases k1 : kind = 1
 · have e1 : ((kind : Int) == 1) = true := op_is k1
   rw [if_pos k1] at hb
   have HH := Lib.hid hb
   clear k1 hb
   by_cases a0 : a = 0
   · subst a0
     by_cases l0 : els = 0
     · subst l0
       have HQ : Hid (inB to many = b) := Lib.hid (by rw [← HH.out]; simp)
       go_enter Tryz.func112, Tryz.ntmps112
       go_wp2_with fail
       refine (ONE.out _ _ (World.size_alloc _ _) to many b HQ.out).mono ?_
       rintro e w1 ⟨rfl, hb1⟩
       have HB2 := Lib.hid ((HB1.out _).trans (hb1.mono (HB1.out _).size))
       clear hb1
       go_wp2_with fail
       go_ret
       exact ⟨rfl, HB2.out⟩
     · have HQ : Hid (b = false) := Lib.hid (by rw [← HH.out]; simp [l0])
       have en : (els == 0) = false := beq_eq_false_iff_ne.2 l0
       clear l0
       go_enter Tryz.func112, Tryz.ntmps112
       go_wp2_with fail
       go_ret
       exact ⟨ret_bool HQ.out.symm, HB1.out _⟩
   · have HQ : Hid (b = false) := Lib.hid (by rw [← HH.out]; simp [a0])
     have en : (a == 0) = false := beq_eq_false_iff_ne.2 a0
     clear a0
     go_enter Tryz.func112, Tryz.ntmps112
     go_wp2_with fail
     go_ret
     exact ⟨ret_bool HQ.out.symm, HB1.out _⟩
 rw [if_neg k1] at hb
 have e1 : ((kind : Int) == 1) = false := op_no k1
 clear k1
 by_cases k2 : kind = 2
 · have e2 : ((kind : Int) == 2) = true := op_is k2
   rw [if_pos k2] at hb
   have HH := Lib.hid hb
   clear k2 hb
   cases hc : inB a regs with
   | false =>
     have HC := Lib.hid hc
     have HQ : Hid (b = false) := Lib.hid (by rw [← HH.out, hc]; rfl)
     clear hc
     go_enter Tryz.func112, Tryz.ntmps112
     go_wp2_with fail
     refine (ONE.out _ _ (World.size_alloc _ _) a regs false HC.out).mono ?_
     rintro e w1 ⟨rfl, hb1⟩
     have HB2 := Lib.hid ((HB1.out _).trans (hb1.mono (HB1.out _).size))
     clear hb1
     go_wp2_with fail
     go_ret
     exact ⟨ret_bool HQ.out.symm, HB2.out⟩
   | true =>
     have HC := Lib.hid hc
     have HQ : Hid ((inB to many && inB els many) = b) := Lib.hid (by rw [← HH.out, hc]; rfl)
     clear hc
     have x2 : ∀ o : Obj, Hid (∀ w1, Below (w.alloc o).heap.size (w.alloc o) w1 → True) := fun o => Lib.hid (fun _ _ => trivial)
     clear x2
     have KX := Lib.hid (Blk.new w 69 #[.int .u8 kind, .int .i64 a, .int .i64 to, .int .i64 els])
     go_enter Tryz.func112, Tryz.ntmps112
     go_wp2_with fail
     refine (ONE.out _ _ (World.size_alloc _ _) a regs true HC.out).mono ?_
     rintro e w1 ⟨rfl, hb1⟩
     have HB2 := Lib.hid ((HB1.out _).trans (hb1.mono (HB1.out _).size))
     have KX1 := KX.out.beneath hb1
     have x2 := KX1.cells 2
     have x3 := KX1.cells 3
     clear hb1 KX1
     go_wp2_with fail
     refine (TWO.out _ _ rfl to els many b HQ.out).mono ?_
     rintro e w2 ⟨rfl, hb2⟩
     have HB3 := Lib.hid (HB2.out.trans (hb2.mono HB2.out.size))
     clear hb2
     go_wp2_with fail
     go_ret
     exact ⟨rfl, HB3.out⟩
 rw [if_neg k2] at hb
 have e2 : ((kind : Int) == 2) = false := op_no k2
 clear k2
 by_cases k3 : kind = 3
 · have e3 : ((kind : Int) == 3) = true := op_is k3
   rw [if_pos k3] at hb
   have HH := Lib.hid hb
   clear k3 hb
   by_cases a0 : to = 0
   · subst a0
     by_cases l0 : els = 0
     · subst l0
       have HQ : Hid (inB a regs = b) := Lib.hid (by rw [← HH.out]; simp)
       go_enter Tryz.func112, Tryz.ntmps112
       go_wp2_with fail
       refine (ONE.out _ _ (World.size_alloc _ _) a regs b HQ.out).mono ?_
       rintro e w1 ⟨rfl, hb1⟩
       have HB2 := Lib.hid ((HB1.out _).trans (hb1.mono (HB1.out _).size))
       clear hb1
       go_wp2_with fail
       go_ret
       exact ⟨rfl, HB2.out⟩
     · have HQ : Hid (b = false) := Lib.hid (by rw [← HH.out]; simp [l0])
       have en : (els == 0) = false := beq_eq_false_iff_ne.2 l0
       clear l0
       go_enter Tryz.func112, Tryz.ntmps112
       go_wp2_with fail
       go_ret
       exact ⟨ret_bool HQ.out.symm, HB1.out _⟩
   · have HQ : Hid (b = false) := Lib.hid (by rw [← HH.out]; simp [a0])
     have en : (to == 0) = false := beq_eq_false_iff_ne.2 a0
     clear a0
     go_enter Tryz.func112, Tryz.ntmps112
     go_wp2_with fail
     go_ret
     exact ⟨ret_bool HQ.out.symm, HB1.out _⟩
 · rw [if_neg k3] at hb
   have e3 : ((kind : Int) == 3) = false := op_no k3
   have HH := Lib.hid hb
   clear k3 hb
   go_enter Tryz.func112, Tryz.ntmps112
   go_wp2_with fail
   go_ret
   exact ⟨ret_bool HH.out, HB1.out _⟩
end Go.Proofs.YtbffebcjimhapaaGreatDoor
