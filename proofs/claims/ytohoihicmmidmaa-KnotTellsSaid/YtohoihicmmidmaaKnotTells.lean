/-
  The walk of the law KnotTells.
-/
import Derived.Test.YtohoihicmmidmaaKnEq
namespace Go.Proofs.Ytohoihicmmidmaa
set_option linter.unusedVariables false
set_option linter.unusedSimpArgs false
open Go.Instr
open Go.ChangeShapes Go.WideShapes Go.ChangeAt Go.RowKit Kn

theorem arrInfo : (Try.prog.info? 32).map (fun i => (i.zero, i.size, i.bytes)) = some (some (.agg #[.int .i64 0, .int .i64 0]), 2, 16) := by kernel_rfl
theorem arr_flat (l : List (Int × Int)) : (l.flatMap arr2).length = l.length * 2 := by
  induction l with
  | nil => rfl
  | cons r rs ih => rw [List.flatMap_cons, List.length_append, ih, List.length_cons]; show 2 + _ = _; omega
theorem flat_at : ∀ (l : List (Int × Int)) (i j : Nat), i < l.length → j < 2 → (l.flatMap arr2)[i * 2 + j]? = some (arrCell (l.getD i (0, 0)) j)
  | [], i, j, hi, _ => by cases hi
  | p :: l, 0, j, _, hj => by
    rw [List.flatMap_cons, List.getElem?_append_left (by show 0 * 2 + j < 2; omega)]
    match j, hj with
    | 0, _ => rfl
    | 1, _ => rfl
  | p :: l, i + 1, j, hi, hj => by
    rw [List.flatMap_cons, List.getElem?_append_right (by show 2 ≤ (i + 1) * 2 + j; omega)]
    rw [show (i + 1) * 2 + j - (arr2 p).length = i * 2 + j by show (i + 1) * 2 + j - 2 = _; omega]
    rw [flat_at l i j (by simpa using hi) hj]
    rfl
theorem ArsAt.news {w : World} {lo B : Nat} {A : Option Addr} {l : List (Int × Int)} (h : ArsAt w lo B A l) : ∀ ad, A = some ad → ∀ j u, (l.flatMap arr2)[j]? = some u → w.cell? (ad.add j) = some u := by
  intro ad hA j u hj
  obtain ⟨hlt, _⟩ := List.getElem?_eq_some_iff.1 hj
  rw [arr_flat] at hlt
  obtain ⟨b, off, e, _, _, hc⟩ := h (by omega)
  rw [hA] at e
  injection e with e
  subst e
  rw [add_lit]
  have h1 := hc (j / 2) (by omega) (j % 2) (by omega)
  have h2 := flat_at l (j / 2) (j % 2) (by omega) (by omega)
  rw [show j / 2 * 2 + j % 2 = j by omega] at h2
  rw [hj] at h2
  rw [show off + j / 2 * 2 + j % 2 = off + j by omega] at h1
  rw [h1, h2]
theorem arrs_own {w : World} {lo : Nat} {v : Value} {l : List (Int × Int)} (h : w.ownsRow lo 32 2 v l.length (l.flatMap arr2)) : ∃ A c, v = .slice A l.length c ∧ GIn w A c l := by
  obtain ⟨A, c, hv, hle, hcap, hnil, hc⟩ := ownsRow_form h (by omega)
  refine ⟨A, c, hv, ⟨hle, hcap, hnil⟩, ?_⟩
  unfold ArsAt
  refine (hc.more (Nat.zero_le _) (Nat.le_refl _)).congr fun i hi j hj => ?_
  rw [List.getD_eq_getElem?_getD, flat_at l i j hi hj]
  rfl
/-- A list of arrows that is not too long, copied. -/
theorem wpList_appG {w : World} {ops : Array Oper} {rest : List Oper} {o : Oper} {a : Act} {Q : Exit → Act → World → Prop} (hgd : o.guard = none) (s x : Operand)
    (ho : o.op = .call { callee := .builtin .append, args := #[s, x], argTypes := #[22, 22] }) (hs : a.eval s = .slice (some ⟨w.heap.size, 0, none⟩) 0 0)
    {A : Option Addr} {c : Nat} {l : List (Int × Int)} (hx : a.eval x = .slice A l.length c) (h0 : GIn w A c l) (hl : l.length ≤ 10000)
    (h : ∀ v' w', GIn w' A c l → (∃ A' c', v' = .slice A' l.length c' ∧ GIn w' A' c' l) → Below w.heap.size w w' → wpList Try.prog ops Q rest (a.put o.dst v') w') : wpList Try.prog ops Q (o :: rest) a (w.alloc (.cells #[] 32)) := by
  obtain ⟨i0, hi, hz0, hz1, hz2⟩ := info_parts arrInfo
  have hb : Below w.heap.size w (w.alloc (.cells #[] 32)) := (Below.refl _ _).alloc (Nat.le_refl _) _
  have hx1 := h0.on hb
  refine wpList_app (P := Try.prog) hgd s x 22 ho w.heap.size 32 i0 _ 2 16 Try.underlying22 hi hz0 hz1 hz2 rfl (by decide) _ 0 [] hs (World.ownsRow_lit w #[] 0 (Nat.le_refl _) (by unfold maxLen; omega) rfl) A l.length c (l.flatMap arr2) hx h0.hdr.nil (arr_flat l) hx1.ars.news ?_ ?_ ?_ (by simp) ?_
  · intro u hu
    obtain ⟨p, _, hp⟩ := List.mem_flatMap.1 hu
    simp only [arr2, List.mem_cons, List.not_mem_nil, or_false] at hp
    rcases hp with rfl | rfl <;> rfl
  · unfold maxLen; omega
  · omega
  · intro v' w' h1 h2
    rw [Nat.zero_add, List.nil_append] at h1
    have hbb : Below w.heap.size w w' := hb.grown h2 (by simp) (fun k hk => by have : w.heap.size = k := Option.some.inj hk; omega)
    exact h v' w' (h0.on hbb) (arrs_own h1) hbb
theorem eqSelf (x y : Int) (w : World) : (Op.equalIn 10000 32 (.agg #[.int .i64 x, .int .i64 y]) (.agg #[.int .i64 x, .int .i64 y])).run Try.prog w = .ok true w := by
  rw [eqArr]; simp
set_option maxRecDepth 100000 in
set_option maxHeartbeats 6400000 in
theorem walk_KnotTells {w : World} (n : Int) {A : Option Addr} {c : Nat} {l : List (Int × Int)} (h : GIn w A c l) (a : Int) :
    Calls Try.prog 6 #[.int .i64 n, .slice A l.length c, .int .i64 a] w fun e w' => e = .returned (.bool true) ∧ Below w.heap.size w w' := by
  have hl0 := h.len
  cases hg : greatG n l with
  | true =>
    have HG := Lib.hid (great_any h n)
    rw [hg] at HG
    clear h hg
    go_enter Try.func6, Try.ntmps6
    go_wp2_with fail
    refine HG.out.mono ?_
    rintro e w1 ⟨rfl, rfl⟩
    go_wp2_with fail
    go_ret
    exact ⟨rfl, Below.refl _ _⟩
  | false =>
    have HG := Lib.hid (great_any h n)
    rw [hg] at HG
    have hll : l.length ≤ 200 := by
      unfold greatG at hg
      simp only [Bool.or_eq_false_iff, decide_eq_false_iff_not] at hg
      omega
    have H := Lib.hid h
    clear h hg
    go_enter Try.func6, Try.ntmps6
    go_wp2_with fail
    refine HG.out.mono ?_
    rintro e w1 ⟨rfl, rfl⟩
    go_wp2_with (at_builtin; refine wpList_appG rfl (.tmp 24) (.tmp 25) rfl rfl rfl H.out (by omega) ?_; intro v1 w1 hx1 hown1 hb1; refine pause ?_)
    obtain ⟨A1, c1, rfl, ho1⟩ := hown1
    have HB1 := Lib.hid hb1
    have HX1 := Lib.hid hx1
    have HO1 := Lib.hid ho1
    have HC1 := Lib.hid (heads_any ho1 n)
    clear hb1 hx1 ho1
    refine resume ?_
    go_wp2_with fail
    refine HC1.out.mono ?_
    rintro e w2 ⟨v2, rfl, hv2, hb2⟩
    have HB2 := Lib.hid (HB1.out.trans (hb2.mono HB1.out.size))
    have HX2 := Lib.hid (HX1.out.on hb2)
    have HO2 := Lib.hid (HO1.out.on hb2)
    have HV2 := Lib.hid hv2
    have HC2 := Lib.hid (rheads_any HX2.out n)
    clear hv2 hb2
    go_wp2_with fail
    refine HC2.out.mono ?_
    rintro e w3 ⟨v3, rfl, hv3, hb3⟩
    have HB3 := Lib.hid (HB2.out.trans (hb3.mono HB2.out.size))
    have HX3 := Lib.hid (HX2.out.on hb3)
    have HO3 := Lib.hid (HO2.out.on hb3)
    have HV2 := Lib.hid (HV2.out.keep hb3)
    have HV3 := Lib.hid hv3
    have HC3 := Lib.hid (ranks_any HO3.out n)
    clear hv3 hb3
    go_wp2_with fail
    refine HC3.out.mono ?_
    rintro e w4 ⟨v4, rfl, hv4, hb4⟩
    have HB4 := Lib.hid (HB3.out.trans (hb4.mono HB3.out.size))
    have HX4 := Lib.hid (HX3.out.on hb4)
    have HO4 := Lib.hid (HO3.out.on hb4)
    have HV2 := Lib.hid (HV2.out.keep hb4)
    have HV3 := Lib.hid (HV3.out.keep hb4)
    have HV4 := Lib.hid hv4
    have HC4 := Lib.hid (rranks_any HX4.out n)
    clear hv4 hb4
    go_wp2_with fail
    refine HC4.out.mono ?_
    rintro e w5 ⟨v5, rfl, hv5, hb5⟩
    have HB5 := Lib.hid (HB4.out.trans (hb5.mono HB4.out.size))
    have HX5 := Lib.hid (HX4.out.on hb5)
    have HO5 := Lib.hid (HO4.out.on hb5)
    have HV2 := Lib.hid (HV2.out.keep hb5)
    have HV3 := Lib.hid (HV3.out.keep hb5)
    have HV4 := Lib.hid (HV4.out.keep hb5)
    have HV5 := Lib.hid hv5
    have HC5 := Lib.hid (tied_any HO5.out n a)
    clear hv5 hb5
    go_wp2_with fail
    refine HC5.out.mono ?_
    rintro e w6 ⟨rfl, hb6⟩
    have HB6 := Lib.hid (HB5.out.trans (hb6.mono HB5.out.size))
    have HX6 := Lib.hid (HX5.out.on hb6)
    have HO6 := Lib.hid (HO5.out.on hb6)
    have HV2 := Lib.hid (HV2.out.keep hb6)
    have HV3 := Lib.hid (HV3.out.keep hb6)
    have HV4 := Lib.hid (HV4.out.keep hb6)
    have HV5 := Lib.hid (HV5.out.keep hb6)
    have HC6 := Lib.hid (rtied_any HX6.out n a)
    clear hb6
    go_wp2_with fail
    refine HC6.out.mono ?_
    rintro e w7 ⟨rfl, hb7⟩
    have HB7 := Lib.hid (HB6.out.trans (hb7.mono HB6.out.size))
    have HX7 := Lib.hid (HX6.out.on hb7)
    have HO7 := Lib.hid (HO6.out.on hb7)
    have HV2 := Lib.hid (HV2.out.keep hb7)
    have HV3 := Lib.hid (HV3.out.keep hb7)
    have HV4 := Lib.hid (HV4.out.keep hb7)
    have HV5 := Lib.hid (HV5.out.keep hb7)
    clear hb7
    have heq := eqSelf
    go_wp2_with fail
    go_loopw [20] (fun i wr => ∃ k : Nat, k ≤ l.length ∧ i = .int .i64 k ∧ Below w7.heap.size w7 wr) (fun i _ => l.length - (intOf i).toNat)
    case atStart => exact ⟨0, Nat.zero_le _, rfl, Below.refl _ _⟩
    case round =>
      obtain ⟨k, hk, rfl, hbr⟩ := hrel
      have HBR := Lib.hid hbr
      clear hbr
      by_cases hlt : k < l.length
      · obtain ⟨b, off, x, y, rfl, hbk, u0, u1, HE⟩ := (HX7.out.on HBR.out).elem hlt
        obtain ⟨b', off', x', y', rfl, hbk', u0', u1', HE'⟩ := (HO7.out.on HBR.out).elem hlt
        have e1 : (x, y) = (x', y') := by rw [← HE.out, ← HE'.out]
        injection e1 with e1 e2
        subst e1 e2
        go_wp2_with fail
        go_quiet (fail)
        go_wp2_with fail
        go_roundw
        case rel => exact ⟨k + 1, by omega, by go_num, belowDrewN HBR.out _⟩
        case measure => simp [intOf]; omega
      · have HS1 := Lib.hid (same_of (HV2.out.keep HBR.out) (HV3.out.keep HBR.out) (b := true) (by simp))
        go_wp2_with fail
        refine HS1.out.mono ?_
        rintro e w8 ⟨rfl, hb8⟩
        have hb78 := HBR.out.trans (hb8.mono HBR.out.size)
        have HS2 := Lib.hid (same_of (HV4.out.keep hb78) (HV5.out.keep hb78) (b := true) (by simp))
        have HB8 := Lib.hid (HB7.out.trans (hb78.mono HB7.out.size))
        clear hb8 hb78
        go_wp2_with fail
        refine HS2.out.mono ?_
        rintro e w9 ⟨rfl, hb9⟩
        have HB9 := Lib.hid (HB8.out.trans (hb9.mono HB8.out.size))
        clear hb9
        go_wp2_with fail
        go_ret
        exact ⟨rfl, HB9.out⟩
end Go.Proofs.Ytohoihicmmidmaa
