/-
  The walk of the law LexParts.
-/
import Derived.Test.YtbkgcikhiomenaaLexAre
import Derived.Test.YtbkgcikhiomenaaLexLaw2
namespace Go.Proofs.Ytbkgcikhiomenaa
set_option linter.unusedVariables false
set_option linter.unusedSimpArgs false
open Go.ChangeShapes Go.WideShapes Go.ChangeAt Go.RowKit

theorem u8_is (c : UInt8) (d : Nat) (hd : d < 256) : ((c.toNat : Int) == (d : Int)) = (c == UInt8.ofNat d) := by
  rw [Bool.eq_iff_iff, beq_iff_eq, beq_iff_eq, ← UInt8.toNat_inj, UInt8.toNat_ofNat']
  omega
theorem toL_app (a b : ByteArray) : toL (a ++ b) = toL a ++ toL b := by
  unfold toL
  rw [ByteArray.data_append, Array.toList_append]
theorem size_app (a b : ByteArray) : (a ++ b).size = a.size + b.size := by
  have := congrArg List.length (toL_app a b)
  rwa [List.length_append, toL_size, toL_size, toL_size] at this
theorem linesP_small {s : Bs} (h : s.length ≤ 16384) : linesP s = outR s [] [] := by unfold linesP; rw [if_neg (by omega)]
theorem linesP_some {s : Bs} {m : List (List Bs)} (h : linesP s = some m) : outR s [] [] = some m := by
  unfold linesP at h
  split at h
  · cases h
  · exact h
def nof (l : Bs) : Bs := l.filter (· != 10)
theorem nof_no {l : Bs} : ∀ c ∈ nof l, c ≠ 10 := fun c hc => by
  have := (List.mem_filter.1 hc).2
  simpa using this
theorem nof_take {l : Bs} {k : Nat} (h : k < l.length) : nof (l.take (k + 1)) = nof (l.take k) ++ (if l[k] = 10 then [] else [l[k]]) := by
  unfold nof
  rw [List.take_add_one, List.getElem?_eq_getElem h, List.filter_append]
  show _ ++ [l[k]].filter (· != 10) = _
  rw [List.filter_cons]
  by_cases h10 : l[k] = 10
  · rw [h10]; rfl
  · rw [if_neg h10, if_pos (by simpa using h10)]; rfl
theorem parts_a {a b : ByteArray} {x y : List (List Bs)} (ha : linesP (toL a) = some x) (hb : linesP (toL b) = some y) (h1 : a.size ≤ 700) (h2 : b.size ≤ 700) : linesP (toL ((a ++ ⟨#[10]⟩) ++ b)) = some (x ++ y) := by
  have := parts_1 (linesP_some ha) (linesP_some hb)
  rw [toL_app, toL_app, List.append_assoc, linesP_small (by
    have e1 := toL_size a
    have e2 := toL_size b
    rw [List.length_append, List.length_append]
    show _ + (1 + _) ≤ _
    omega)]
  exact this
theorem parts_b {a b n : ByteArray} {l : Bs} {x y : List (List Bs)} (ha : linesP (toL a) = some x) (hb : linesP (toL b) = some y) (h1 : a.size ≤ 700) (h2 : b.size ≤ 700) (hn : toL n = 35 :: nof l) (h3 : n.size ≤ 701) : linesP (toL (((a ++ n) ++ ⟨#[10]⟩) ++ b)) = some (x ++ y) := by
  have := parts_2 (n := nof l) (linesP_some ha) (linesP_some hb) nof_no
  rw [toL_app, toL_app, toL_app, hn, List.append_assoc, linesP_small (by
    have e1 := toL_size a
    have e2 := toL_size b
    have e3 := toL_size n
    rw [hn] at e3
    rw [List.length_append, List.length_append, List.length_append, e3]
    show _ + _ + (1 + _) ≤ _
    omega)]
  exact this
theorem parts_c {a b : ByteArray} {x y : List (List Bs)} (ha : linesP (toL a) = some x) (hb : linesP (toL b) = some y) (h1 : a.size ≤ 700) (h2 : b.size ≤ 700) : linesP (toL ((((⟨#[32, 9]⟩ ++ a) ++ ⟨#[13, 10, 10, 32, 10]⟩) ++ b) ++ ⟨#[32]⟩)) = some (x ++ y) := by
  have := parts_3 (linesP_some ha) (linesP_some hb)
  have e : toL ((((⟨#[32, 9]⟩ ++ a) ++ ⟨#[13, 10, 10, 32, 10]⟩) ++ b) ++ ⟨#[32]⟩) = 32 :: 9 :: (((toL a ++ [13]) ++ 10 :: 10 :: 32 :: 10 :: toL b) ++ [32]) := by
    rw [toL_app, toL_app, toL_app, toL_app, show toL ⟨#[32, 9]⟩ = [32, 9] from rfl, show toL ⟨#[13, 10, 10, 32, 10]⟩ = [13, 10, 10, 32, 10] from rfl, show toL ⟨#[32]⟩ = [32] from rfl]
    simp
  rw [e, linesP_small (by
    have e1 := toL_size a
    have e2 := toL_size b
    simp only [List.length_cons, List.length_append, List.length_nil]
    omega)]
  exact this
set_option maxRecDepth 100000 in
set_option maxHeartbeats 6400000 in
theorem walk_LexParts {w : World} (a : ByteArray) (wa : a.size ≤ maxLen) (b : ByteArray) (wb : b.size ≤ maxLen) (c : ByteArray) (wc : c.size ≤ maxLen) :
    Calls Try.prog 4 #[.string a, .string b, .string c] w fun e w' => e = .returned (.bool true) ∧ Below w.heap.size w w' := by
  unfold maxLen at wa wb wc
  by_cases h1 : 700 < a.size
  · have q1 : (700 : Int) < a.size := by omega
    clear h1
    go_enter Try.func4, Try.ntmps4
    go_wp2_with (go_at_call 13; refine (alive_any _).mono ?_; rintro e w1 ⟨rfl, hb1⟩; have HB1 := Lib.hid hb1; clear hb1)
    go_ret
    exact ⟨rfl, HB1.out⟩
  by_cases h2 : 700 < b.size
  · have q1 : ¬ (700 : Int) < a.size := by omega
    have q2 : (700 : Int) < b.size := by omega
    clear h1 h2
    go_enter Try.func4, Try.ntmps4
    go_wp2_with (go_at_call 13; refine (alive_any _).mono ?_; rintro e w1 ⟨rfl, hb1⟩; have HB1 := Lib.hid hb1; clear hb1)
    go_ret
    exact ⟨rfl, HB1.out⟩
  by_cases h3 : 700 < c.size
  · have q1 : ¬ (700 : Int) < a.size := by omega
    have q2 : ¬ (700 : Int) < b.size := by omega
    have q3 : (700 : Int) < c.size := by omega
    clear h1 h2 h3
    go_enter Try.func4, Try.ntmps4
    go_wp2_with (go_at_call 13; refine (alive_any _).mono ?_; rintro e w1 ⟨rfl, hb1⟩; have HB1 := Lib.hid hb1; clear hb1)
    go_ret
    exact ⟨rfl, HB1.out⟩
  have q1 : ¬ (700 : Int) < a.size := by omega
  have q2 : ¬ (700 : Int) < b.size := by omega
  have q3 : ¬ (700 : Int) < c.size := by omega
  have H1 := Lib.hid (Nat.le_of_not_lt h1)
  have H2 := Lib.hid (Nat.le_of_not_lt h2)
  have H3 := Lib.hid (Nat.le_of_not_lt h3)
  clear h1 h2 h3
  obtain ⟨o1, ho1⟩ : ∃ o, linesP (toL a) = o := ⟨_, rfl⟩
  obtain ⟨o2, ho2⟩ : ∃ o, linesP (toL b) = o := ⟨_, rfl⟩
  cases o1 with
  | none =>
    obtain ⟨eo2, heo2⟩ : ∃ x, errL o2 = x := ⟨_, rfl⟩
    have HO1 := Lib.hid ho1
    have HO2 := Lib.hid ho2
    have HE1 : Hid (errL none = 4) := Lib.hid rfl
    have HE2 := Lib.hid heo2
    clear ho1 ho2 heo2
    go_enter Try.func4, Try.ntmps4
    go_wp2_with (first
      | (go_at_call 13; refine (alive_any _).mono ?_; rintro e w1 ⟨rfl, hb1⟩; have HB1 := Lib.hid hb1; clear hb1; have tok1 : True := trivial)
      | (go_at_call 8; have _t := tok1; refine (plines_any a (by have := H1.out; omega) _).mono ?_; intro e w2 hl; rw [HO1.out] at hl; obtain ⟨A, cx, rx, rfl, hown, hrw, hb2⟩ := hl.form; rw [HE1.out]; have HL := Lib.hid hl; have HB2 := Lib.hid hb2; clear hl hown hb2 hrw tok1 _t)
      | (go_at_call 8; refine (plines_any b (by have := H2.out; omega) _).mono ?_; intro e w3 hl; rw [HO2.out] at hl; obtain ⟨A3, cy, ry, rfl, hown, hrw, hb3⟩ := hl.form; rw [HE2.out]; have HL2 := Lib.hid hl; have HB3 := Lib.hid hb3; clear hl hown hb3 hrw))
    go_ret
    exact ⟨rfl, (HB1.out.trans (HB2.out.mono HB1.out.size)).trans (HB3.out.mono (Nat.le_trans HB1.out.size HB2.out.size))⟩
  | some x =>
  cases o2 with
  | none =>
    have HO1 := Lib.hid ho1
    have HO2 := Lib.hid ho2
    have HE1 : Hid (errL (some x) = 0) := Lib.hid rfl
    have HE2 : Hid (errL none = 4) := Lib.hid rfl
    clear ho1 ho2
    go_enter Try.func4, Try.ntmps4
    go_wp2_with (first
      | (go_at_call 13; refine (alive_any _).mono ?_; rintro e w1 ⟨rfl, hb1⟩; have HB1 := Lib.hid hb1; clear hb1; have tok1 : True := trivial)
      | (go_at_call 8; have _t := tok1; refine (plines_any a (by have := H1.out; omega) _).mono ?_; intro e w2 hl; rw [HO1.out] at hl; obtain ⟨A, cx, rx, rfl, hown, hrw, hb2⟩ := hl.form; rw [HE1.out]; have HL := Lib.hid hl; have HB2 := Lib.hid hb2; clear hl hown hb2 hrw tok1 _t)
      | (go_at_call 8; refine (plines_any b (by have := H2.out; omega) _).mono ?_; intro e w3 hl; rw [HO2.out] at hl; obtain ⟨A3, cy, ry, rfl, hown, hrw, hb3⟩ := hl.form; rw [HE2.out]; have HL2 := Lib.hid hl; have HB3 := Lib.hid hb3; clear hl hown hb3 hrw))
    go_ret
    exact ⟨rfl, (HB1.out.trans (HB2.out.mono HB1.out.size)).trans (HB3.out.mono (Nat.le_trans HB1.out.size HB2.out.size))⟩
  | some y =>
    have HO1 := Lib.hid ho1
    have HO2 := Lib.hid ho2
    have HE1 : Hid (errL (some x) = 0) := Lib.hid rfl
    have HE2 : Hid (errL (some y) = 0) := Lib.hid rfl
    clear ho1 ho2
    go_enter Try.func4, Try.ntmps4
    go_wp2_with (first
      | (go_at_call 13; refine (alive_any _).mono ?_; rintro e w1 ⟨rfl, hb1⟩; have HB1 := Lib.hid hb1; clear hb1; have tok1 : True := trivial)
      | (go_at_call 8; have _t := tok1; refine (plines_any a (by have := H1.out; omega) _).mono ?_; intro e w2 hl; rw [HO1.out] at hl; obtain ⟨A, cx, rx, rfl, hown, hrw, hb2⟩ := hl.form; rw [HE1.out]; have HL := Lib.hid hl; have HW2 := Lib.hid hown; have HR2 : Hid (rx.map LnR.data = x) := Lib.hid hrw.out; have HB2 := Lib.hid hb2; clear hl hown hb2 hrw tok1 _t)
      | (go_at_call 8; refine (plines_any b (by have := H2.out; omega) _).mono ?_; intro e w3 hl; rw [HO2.out] at hl; obtain ⟨A3, cy, ry, rfl, hown, hrw, hb3⟩ := hl.form; rw [HE2.out]; have HL2 := Lib.hid hl; have HW3 := Lib.hid hown; have HR3 : Hid (ry.map LnR.data = y) := Lib.hid hrw.out; have HB3 := Lib.hid hb3; clear hl hown hb3 hrw)
      | (at_builtin; refine wpList_appLs rfl (.tmp 51) (.tmp 52) (by rfl) w3.heap.size _ [] (by rfl) (OwnLines.lit w3) rx (by rfl) ((HW2.out.keep HB3.out).keep ((Below.refl _ _).alloc (Nat.le_refl _) _)).at_ (fun r hr => ((HW2.out.keep HB3.out).keep ((Below.refl _ _).alloc (Nat.le_refl _) _)).ok r hr) (Nat.zero_le _) (by have h1 := (lines_few HO1.out).1; rw [← HR2.out, List.length_map, toL_size] at h1; have := H1.out; omega) (by rw [World.size_alloc]; omega) ?_; intro v4 w4 hown4 hgr4; rw [List.nil_append] at hown4; have HB4 := Lib.hid (Below.grown (B := w3.heap.size) (a := w3) ((Below.refl _ _).alloc (Nat.le_refl _) _) hgr4 (by rw [World.size_alloc]; omega) (fun k e => by have : w3.heap.size = k := Option.some.inj e; omega)); have HW4 := Lib.hid hown4; obtain ⟨A4, c4, rfl, _⟩ := hown4.full; clear hown4 hgr4)
      | (at_builtin; refine wpList_appLs rfl (.tmp 53) (.tmp 54) (by rfl) w3.heap.size _ rx (by rfl) HW4.out ry (by rfl) (HW3.out.keep HB4.out).at_ (fun r hr => (HW3.out.keep HB4.out).ok r hr) (by have h1 := (lines_few HO1.out).1; rw [← HR2.out, List.length_map, toL_size] at h1; have := H1.out; omega) (by have h1 := (lines_few HO2.out).1; rw [← HR3.out, List.length_map, toL_size] at h1; have := H2.out; omega) HB4.out.size ?_; intro v5 w5 hown5 hgr5; have HZ0 : Hid ((rx ++ ry).map LnR.data = x ++ y) := Lib.hid (by rw [List.map_append, HR2.out, HR3.out]); obtain ⟨rz, hrz⟩ : ∃ rz, rx ++ ry = rz := ⟨_, rfl⟩; rw [hrz] at hown5 HZ0; have HB5 := Lib.hid (Below.grown (B := w3.heap.size) (a := w3) HB4.out hgr5 HB4.out.size (own_base HW4.out.row)); have HW5 := Lib.hid hown5; obtain ⟨A5, c5, rfl, _⟩ := hown5.full; clear hown5 hgr5 hrz))
    have HBA := Lib.hid (((HB1.out.trans (HB2.out.mono HB1.out.size)).trans (HB3.out.mono (Nat.le_trans HB1.out.size HB2.out.size))).trans (HB5.out.mono (Nat.le_trans (Nat.le_trans HB1.out.size HB2.out.size) HB3.out.size)))
    obtain ⟨wo, rfl⟩ : ∃ wo : World, wo = w5 := ⟨_, rfl⟩
    go_loopw [13, 14] (fun v i wr => ∃ (k : Nat) (z : ByteArray), k ≤ c.size ∧ i = .int .i64 k ∧ v = .string z ∧ z.size ≤ 1 + k ∧ Hid (toL z = 35 :: nof ((toL c).take k)) ∧ Hid (Below wo.heap.size wo wr)) (fun _ i _ => c.size - (intOf i).toNat)
    case atStart => exact ⟨0, ⟨#[35]⟩, Nat.zero_le _, rfl, rfl, Nat.le_refl _, Lib.hid rfl, Lib.hid (Below.refl _ _)⟩
    case round =>
      obtain ⟨k, z, hk, rfl, rfl, hz, HZ, HBL⟩ := hrel
      have hzz : (z.size : Int) ≤ 701 := by have := H3.out; omega
      by_cases hlt : k < c.size
      · have hkz : (k : Int) < c.size := by omega
        obtain ⟨d, hd⟩ : ∃ d : UInt8, c[k]'hlt = d := ⟨_, rfl⟩
        have HNT : Hid (nof ((toL c).take (k + 1)) = nof ((toL c).take k) ++ (if d = 10 then [] else [d])) := Lib.hid (by
          have hl : k < (toL c).length := by rw [toL_size]; exact hlt
          rw [nof_take hl]
          have e : (toL c)[k] = d := by
            have := toL_at c hlt
            rw [List.getElem?_eq_getElem hl, hd] at this
            exact Option.some.inj this
          rw [e])
        have HLT := Lib.hid hlt
        have HZS := Lib.hid hz
        by_cases h10 : d = 10
        · have e1 : ((d.toNat : Int) == 10) = true := (u8_is d 10 (by decide)).trans (beq_iff_eq.2 h10)
          have e2 : ((d.toNat : Int) != 10) = false := by rw [bne, e1]; rfl
          have H10 := Lib.hid h10
          clear h10 hz
          go_wp2_with fail
          go_roundw
          case rel => exact ⟨k + 1, z, by have := HLT.out; omega, by go_num, rfl, by have := HZS.out; omega, Lib.hid (by rw [HNT.out, if_pos H10.out, List.append_nil]; exact HZ.out), HBL⟩
          case measure => simp [intOf]; have := HLT.out; omega
        · have e1 : ((d.toNat : Int) == 10) = false := (u8_is d 10 (by decide)).trans (beq_eq_false_iff_ne.2 h10)
          have e2 : ((d.toNat : Int) != 10) = true := by rw [bne, e1]; rfl
          have H10 := Lib.hid h10
          have hB := byte_cell
          clear h10 hz
          go_wp2_with fail
          go_roundw
          case rel => exact ⟨k + 1, z ++ ⟨#[d]⟩, by have := HLT.out; omega, by go_num, rfl, by rw [size_app]; have := HZS.out; show z.size + 1 ≤ _; omega, Lib.hid (by rw [HNT.out, if_neg H10.out, toL_app, HZ.out]; rfl), Lib.hid (HBL.out.alloc HBL.out.size _)⟩
          case measure => simp [intOf]; have := HLT.out; omega
      · obtain rfl : k = c.size := by omega
        have HZS := Lib.hid hz
        have q4 : (a.size : Int) ≤ 700 := by have := H1.out; omega
        have q5 : (b.size : Int) ≤ 700 := by have := H2.out; omega
        clear hz
        have HPZ : Hid (z.size ≤ 701) := Lib.hid (by have := HZS.out; have := H3.out; omega)
        go_wp2_with fail
        refine (are_any _ (by rw [size_app, size_app]; have := H1.out; have := H2.out; show _ + 1 + _ ≤ _; omega) (HW5.out.keep HBL.out).at_ true (decide_eq_true ((parts_a HO1.out HO2.out H1.out H2.out).trans (by rw [HZ0.out])))).mono ?_
        rintro e w6 ⟨rfl, hb6⟩
        have HB6 := Lib.hid (HBL.out.trans (hb6.mono HBL.out.size))
        clear hb6
        go_wp2_with fail
        refine (are_any _ (by rw [size_app, size_app, size_app]; have := H1.out; have := H2.out; have := HPZ.out; show _ + _ + 1 + _ ≤ _; omega) (HW5.out.keep HB6.out).at_ true (decide_eq_true ((parts_b (l := (toL c).take c.size) HO1.out HO2.out H1.out H2.out HZ.out HPZ.out).trans (by rw [HZ0.out])))).mono ?_
        rintro e w7 ⟨rfl, hb7⟩
        have HB7 := Lib.hid (HB6.out.trans (hb7.mono HB6.out.size))
        clear hb7
        go_wp2_with fail
        refine (are_any _ (by rw [size_app, size_app, size_app, size_app]; have := H1.out; have := H2.out; show 2 + _ + 5 + _ + 1 ≤ _; omega) (HW5.out.keep HB7.out).at_ true (decide_eq_true ((parts_c HO1.out HO2.out H1.out H2.out).trans (by rw [HZ0.out])))).mono ?_
        rintro e w8 ⟨rfl, hb8⟩
        have HB8 := Lib.hid (HB7.out.trans (hb8.mono HB7.out.size))
        clear hb8
        go_wp2_with fail
        go_ret
        exact ⟨rfl, HBA.out.trans (HB8.out.mono HBA.out.size)⟩
end Go.Proofs.Ytbkgcikhiomenaa
