/-
  strings.ContainsAny, for blanks, line feeds and '#'.
-/
import Derived.Test.YtbkgcikhiomenaaLexRune
import Derived.Test.YtbkgcikhiomenaaLexPure
namespace Go.Proofs.Ytbkgcikhiomenaa
set_option linter.unusedVariables false
set_option linter.unusedSimpArgs false
open Go.ChangeShapes Go.WideShapes Go.ChangeAt Go.RowKit

/-- Has a text a byte that no word may have? -/
def spB (s : Bs) : Bool := s.any fun c => !isPlain c
theorem chars5_has (c : UInt8) : chars5.data.toList.contains c = !isPlain c := by
  have h : chars5.data.toList = [32, 9, 13, 10, 35] := rfl
  rw [h]
  unfold isPlain isBlank
  rw [Bool.eq_iff_iff]
  simp only [List.contains_cons, List.contains_nil, Bool.or_eq_true, beq_iff_eq, Bool.not_not, Bool.or_false]
  constructor
  · rintro (h | h | h | h | h)
    · exact .inl (.inl (.inl (.inl h)))
    · exact .inl (.inl (.inl (.inr h)))
    · exact .inl (.inl (.inr h))
    · exact .inl (.inr h)
    · exact .inr h
  · rintro ((((h | h) | h) | h) | h)
    · exact .inl h
    · exact .inr (.inl h)
    · exact .inr (.inr (.inl h))
    · exact .inr (.inr (.inr (.inl h)))
    · exact .inr (.inr (.inr (.inr h)))
theorem plain_high {c : UInt8} (h : 128 ≤ c.toNat) : isPlain c = true := by
  have := chars5_has c
  cases hp : isPlain c with
  | true => rfl
  | false =>
    rw [hp] at this
    have hm := List.contains_iff_mem.1 (show chars5.data.toList.contains c = true from this)
    have hall : ∀ d ∈ chars5.data.toList, d.toNat < 128 := by decide
    have := hall c hm
    omega
/-- No such byte ahead of a place. -/
def NoSp (s : ByteArray) (i : Nat) : Prop := ∀ j (h : j < s.size), j < i → isPlain (s[j]'h) = true
theorem NoSp.none {s : ByteArray} (h : NoSp s s.size) : spB (toL s) = false := by
  unfold spB
  rw [List.any_eq_false]
  intro c hc
  obtain ⟨j, hj, rfl⟩ := List.mem_iff_getElem.1 hc
  have hj' : j < s.size := by rw [toL_size] at hj; exact hj
  have e : (toL s)[j]'hj = s[j]'hj' := by
    have := toL_at s hj'
    rw [List.getElem?_eq_getElem hj] at this
    exact Option.some.inj this
  rw [e, h j hj' hj']
  decide
theorem sp_hit {s : ByteArray} {i : Nat} (h : i < s.size) (hp : isPlain (s[i]'h) = false) : spB (toL s) = true := by
  unfold spB
  rw [List.any_eq_true]
  exact ⟨s[i]'h, List.mem_of_getElem? (toL_at s h), by rw [hp]; rfl⟩
def IdxOf (b : Bool) (w : World) (e : Ending) (w' : World) : Prop := ∃ v : Int, e = .returned (.int .i64 v) ∧ decide (0 ≤ v) = b ∧ Below w.heap.size w w'
set_option maxHeartbeats 1600000 in
set_option maxRecDepth 1000000 in
theorem indexAny_short (s : ByteArray) (h8 : s.size ≤ 8) (w : World) :
    Calls Try.prog 39 #[.string s, .string chars5] w (IdxOf (spB (toL s)) w) := by
  have h8z : decide ((8 : Int) < (s.size : Int)) = false := decide_eq_false (by omega)
  have hemp : chars5.toList.isEmpty = false := by rw [ByteArray.toList_eq]; rfl
  have hemp2 : chars5.toList ≠ [] := fun e => by rw [e] at hemp; cases hemp
  have hsz : (chars5.size : Int) = 5 := by rfl
  have H8 := Lib.hid h8
  clear h8
  go_enter Try.func39, Try.ntmps39
  go_wp2_with (go_at_call 47; refine (Try.strings_shouldUseASCIISet _ _).mono ?_; rintro e w' ⟨rfl, hw⟩; rw [hw, h8z]; clear hw w')
  go_loopw [] (fun wr => ∃ i : Nat, i ≤ s.size ∧ Hid (wr.heap[w.heap.size]? = some (.stringIter s i) ∧ Below w.heap.size w wr) ∧ Hid (NoSp s i)) (fun wr => s.size - wr.iterPos w.heap.size)
  case atStart => exact ⟨0, Nat.zero_le _, Lib.hid ⟨World.iter_heap _ _ _, (Below.refl _ _).alloc (Nat.le_refl _) _⟩, Lib.hid (fun j _ h => absurd h (Nat.not_lt_zero _))⟩
  case round =>
    obtain ⟨i, hi, HW, HN⟩ := hrel
    rename_i wr
    by_cases hp : i < s.size
    · obtain ⟨x, hx⟩ : ∃ x : UInt8, s[i]'hp = x := ⟨_, rfl⟩
      have Hx := Lib.hid hx
      by_cases h128 : x.toNat < 128
      · have hnx : ∀ ty, (Instr.next (.pointer (some ⟨w.heap.size, 0, none⟩)) true ty).run Try.prog wr = _ := fun ty => Lib.run_next_ascii_at wr _ s i ty HW.out.1 hp (by rw [hx]; exact h128)
        rw [hx] at hnx
        have HW2 := Lib.hid (And.intro (Lib.iterAt_heap wr w.heap.size s i (i + 1) HW.out.1) (Lib.below_iterAt HW.out.2 (Nat.le_refl _) s (i + 1)))
        have HP := Lib.hid (show wr.iterPos w.heap.size = i by unfold World.iterPos; rw [HW.out.1])
        obtain ⟨w2, hw2⟩ : ∃ w2, wr.iterAt w.heap.size s (i + 1) = w2 := ⟨_, rfl⟩
        rw [hw2] at hnx HW2
        have HP2 := Lib.hid (show w2.iterPos w.heap.size = i + 1 by unfold World.iterPos; rw [HW2.out.1])
        have hcon := Lib.contains_iff_indexByte chars5.data.toList x
        rw [chars5_has] at hcon
        obtain ⟨iv, HIV⟩ : ∃ iv, Hid (Lib.indexByte chars5.data.toList (((x.toNat : Nat) : Int).toNat.toUInt8) = iv) := ⟨_, Lib.hid rfl⟩
        have hback : (((x.toNat : Nat) : Int)).toNat.toUInt8 = x := by simp
        have HB := Lib.hid hback
        have hcon2 : (!isPlain x) = decide (0 ≤ iv) := by rw [hcon, ← HIV.out, hback]
        clear hw2 hx hback hcon
        cases hpl : isPlain x with
        | true =>
          rw [hpl] at hcon2
          have hiv : ¬ 0 ≤ iv := of_decide_eq_false hcon2.symm
          have HN2 : Hid (NoSp s (i + 1)) := Lib.hid (fun j hj hlt => by
            by_cases e : j = i
            · subst e; rw [Hx.out]; exact hpl
            · exact HN.out j hj (by omega))
          clear hcon2 hpl
          go_wp2_with (go_at_call 46; refine (Try.strings_IndexRune_ascii _ _ _ (by omega) (by omega)).mono ?_; rintro e w' ⟨rfl, hw⟩; rw [hw, HIV.out]; clear hw w')
          go_roundw
          case rel => exact ⟨i + 1, by omega, HW2, HN2⟩
          case measure => rw [HP.out, HP2.out]; omega
        | false =>
          rw [hpl] at hcon2
          have hiv : 0 ≤ iv := of_decide_eq_true hcon2.symm
          have HS := Lib.hid (sp_hit hp (by rw [Hx.out]; exact hpl))
          clear hcon2 hpl
          go_wp2_with (go_at_call 46; refine (Try.strings_IndexRune_ascii _ _ _ (by omega) (by omega)).mono ?_; rintro e w' ⟨rfl, hw⟩; rw [hw, HIV.out]; clear hw w')
          go_ret
          exact ⟨i, rfl, by rw [HS.out]; exact decide_eq_true (by omega), HW2.out.2⟩
      · have hd := dec_high s i hp (by rw [hx]; omega)
        have hnx : ∀ ty, (Instr.next (.pointer (some ⟨w.heap.size, 0, none⟩)) true ty).run Try.prog wr = _ := fun ty => Lib.run_next_any_at wr _ s i ty HW.out.1 hp
        obtain ⟨r, hr⟩ : ∃ r, (Utf8.decode s i).1 = r := ⟨_, rfl⟩
        obtain ⟨k, hk⟩ : ∃ k, (Utf8.decode s i).2 = k := ⟨_, rfl⟩
        rw [hr, hk] at hd hnx
        obtain ⟨⟨d1, d2, d3⟩, d4, d5, d6⟩ := hd
        have HW2 := Lib.hid (And.intro (Lib.iterAt_heap wr w.heap.size s i (i + k) HW.out.1) (Lib.below_iterAt HW.out.2 (Nat.le_refl _) s (i + k)))
        have HP := Lib.hid (show wr.iterPos w.heap.size = i by unfold World.iterPos; rw [HW.out.1])
        obtain ⟨w2, hw2⟩ : ∃ w2, wr.iterAt w.heap.size s (i + k) = w2 := ⟨_, rfl⟩
        rw [hw2] at hnx HW2
        have HN2 : Hid (NoSp s (i + k)) := Lib.hid (fun j hj hlt => by
          by_cases e : j < i
          · exact HN.out j hj e
          · have h := d6 (j - i) (by omega)
            rw [show i + (j - i) = j by omega] at h
            have e2 : s.get! j = s[j]'hj := by
              simp [ByteArray.get!, getElem!_pos, hj]
              rfl
            rw [e2] at h
            exact plain_high h)
        clear hw2 hx hr hk d6 h128
        go_wp2_with (go_at_call 46; refine (indexRune_far (r : Int) (by omega) (by omega) (by omega) _).mono ?_; rintro e w3 ⟨rfl, hb3⟩; have HB3 := Lib.hid hb3; clear hb3)
        go_roundw
        case rel => exact ⟨i + k, by omega, Lib.hid ⟨(HB3.out.block w.heap.size (Array.getElem?_eq_some_iff.1 HW2.out.1).1).trans HW2.out.1, HW2.out.2.trans (HB3.out.mono HW2.out.2.size)⟩, HN2⟩
        case measure => rw [HP.out]; unfold World.iterPos; rw [(HB3.out.block w.heap.size (Array.getElem?_eq_some_iff.1 HW2.out.1).1).trans HW2.out.1]; simp only; omega
    · have hnx : ∀ ty, (Instr.next (.pointer (some ⟨w.heap.size, 0, none⟩)) true ty).run Try.prog wr = _ := fun ty => Lib.run_next_end_at wr _ s i ty HW.out.1 hp
      obtain rfl : i = s.size := by omega
      go_wp2_with fail
      go_ret
      exact ⟨-1, rfl, by rw [HN.out.none]; decide, HW.out.2⟩
theorem indexAny_sp (chars : List UInt8) : ∀ l : List UInt8, -1 ≤ Lib.indexAny l chars ∧ decide (0 ≤ Lib.indexAny l chars) = l.any chars.contains
  | [] => ⟨by show (-1 : Int) ≤ -1; omega, rfl⟩
  | b :: l => by
    obtain ⟨h1, h2⟩ := indexAny_sp chars l
    show -1 ≤ (if chars.contains b then 0 else if Lib.indexAny l chars == -1 then -1 else Lib.indexAny l chars + 1) ∧ decide (0 ≤ (if chars.contains b then (0 : Int) else if Lib.indexAny l chars == -1 then -1 else Lib.indexAny l chars + 1)) = _
    rw [List.any_cons, ← h2]
    cases hb : chars.contains b with
    | true => exact ⟨by simp, by simp⟩
    | false =>
      by_cases he : Lib.indexAny l chars = -1
      · rw [he]; exact ⟨by decide, by decide⟩
      · have he2 : (Lib.indexAny l chars == -1) = false := beq_eq_false_iff_ne.2 he
        rw [he2]
        refine ⟨by simp; omega, ?_⟩
        simp
        omega
theorem zero84 : ∀ w, (zeroValue 84).run Try.prog w = .ok (.agg (Array.replicate 256 (.bool false))) w := (zero_of_info (show (Try.prog.info? 84).map (fun i => (i.zero, i.size)) = some (some (.agg (Array.replicate 256 (.bool false))), 256) by kernel_rfl)).1
theorem indexAny_any (s : ByteArray) (hs : s.size < 4294967281) (w : World) :
    Calls Try.prog 39 #[.string s, .string chars5] w (IdxOf (spB (toL s)) w) := by
  by_cases h8 : s.size ≤ 8
  · exact indexAny_short s h8 w
  · refine (Try.strings_IndexAny_long zero84 s chars5 w (by decide) (by omega) hs (by decide) ?_).mono ?_
    · intro j b hj
      have hall : ∀ d ∈ chars5.data.toList, d.toNat < 128 := by decide
      exact hall b (List.mem_of_getElem? hj)
    · rintro e w' ⟨rfl, rfl⟩
      refine ⟨_, rfl, ?_, ((Below.refl _ _).alloc (Nat.le_refl _) _).alloc (by simp) _⟩
      rw [(indexAny_sp _ _).2]
      unfold spB
      rw [show (toL s) = s.data.toList from rfl]
      congr 1
      funext c
      exact chars5_has c
theorem containsAny_any (s : ByteArray) (hs : s.size < 4294967281) (w : World) :
    Calls Try.prog 27 #[.string s, .string ⟨#[32, 9, 13, 10, 35]⟩] w fun e w' => e = .returned (.bool (spB (toL s))) ∧ Below w.heap.size w w' := by
  have c := indexAny_any s hs w
  obtain ⟨b, hb⟩ : ∃ b, spB (toL s) = b := ⟨_, rfl⟩
  rw [hb] at c
  rw [hb]
  have HC := Lib.hid c
  clear c hb
  go_enter Try.func27, Try.ntmps27
  go_wp2_with (go_at_call 39; refine HC.out.mono ?_; rintro e w1 ⟨v, rfl, hv, hb1⟩; have HV := Lib.hid hv; have HB := Lib.hid hb1; clear hv hb1)
  go_ret
  exact ⟨ret_bool HV.out, HB.out⟩
end Go.Proofs.Ytbkgcikhiomenaa
