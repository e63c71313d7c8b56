/-
  The walk of the reference of num (fescueref01): what Write writes, what Read reads.
-/
import Derived.Test.YtbkgcikhiomenaaNum
import Derived.Laws.Concat
import Derived.Laws.BytesString
import Derived.WalkSpells
namespace Go.Proofs.Ytbkgcikhiomenaa
set_option linter.unusedVariables false
set_option linter.unusedSimpArgs false
open Go.ChangeShapes Go.WideShapes Go.ChangeAt Go.RowKit Go.Lib

/-- What is to come yet. -/
def front (u : Nat) : List UInt8 := if u = 0 then [] else decDigits u
theorem front_step {u : Nat} (h : 1 ≤ u) : front u = front (u / 10) ++ [UInt8.ofNat (48 + u % 10)] := by
  unfold front
  rw [if_neg (by omega)]
  by_cases hs : u < 10
  · rw [if_pos (by omega), dec_small hs, show u % 10 = u by omega]; rfl
  · rw [if_neg (by omega), dec_big hs]

theorem add_lit0 (b o : Nat) : (⟨b, o, none⟩ : Addr).add 0 = ⟨b, o, none⟩ := by simp [Addr.add]
theorem str_cons (c : UInt8) (t : List UInt8) : (⟨[c].toArray⟩ : ByteArray) ++ ⟨t.toArray⟩ = ⟨(c :: t).toArray⟩ := by
  apply ByteArray.ext
  simp
theorem str_nil (t : List UInt8) : (⟨#[]⟩ : ByteArray) ++ ⟨t.toArray⟩ = ⟨t.toArray⟩ := by
  apply ByteArray.ext
  simp
theorem front_len {u : Nat} (h : u ≤ 9223372036854775808) : (front u).length ≤ 19 := by
  unfold front
  by_cases h0 : u = 0
  · rw [if_pos h0]; simp
  · rw [if_neg h0]
    obtain ⟨s1, s2, _⟩ := dec_spec u
    exact canon_len s1 (by rw [s2]; exact h)
theorem tail_len {u0 u : Nat} {t : List UInt8} (h : u0 ≤ 9223372036854775808) (hf : front u0 = front u ++ t) : t.length ≤ 19 := by
  have h1 := front_len h
  rw [hf, List.length_append] at h1
  omega

def dgc (u : Nat) : UInt8 := UInt8.ofNat (48 + u % 10)
theorem digit_cell (wr : World) (u : Nat) : (convert 35 9 (.slice (some ⟨wr.heap.size, 0, none⟩) 1 1)).run Try.prog (wr.alloc (.cells #[.int .u8 (48 + (u : Int) % 10)] 5)) =
    .ok (.string ⟨[dgc u].toArray⟩) (wr.alloc (.cells #[.int .u8 (48 + (u : Int) % 10)] 5)) := by
  refine run_convert_bytes_back (P := Try.prog) _ 35 9 5 ⟨wr.heap.size, 0, none⟩ 1 [dgc u] Try.underlying35 Try.underlying5 Try.underlying9 ?_
  intro j hj
  have hj0 : j = 0 := by simp at hj; omega
  subst hj0
  rw [add_lit0]
  rw [(Blk.new wr 5 #[.int .u8 (48 + (u : Int) % 10)]).cells 0]
  show some (Value.int .u8 (48 + (u : Int) % 10)) = some (Value.int .u8 ((dgc u).toNat : Int))
  unfold dgc
  rw [toNat_digit (u := u % 10) (by omega)]
  congr 2

theorem write_pos (u0 : Nat) (h1 : 1 ≤ u0) (h2 : u0 ≤ 9223372036854775807) (w : World) :
    Calls Try.prog 45 #[.int .i64 u0] w fun e w' => e = .returned (.string ⟨(itoa u0).toArray⟩) ∧ Below w.heap.size w w' := by
  have e0 : ((u0 : Int) == 0) = false := by simp; omega
  have q1 : (0 : Int) < u0 := by omega
  have HU := Lib.hid h2
  clear h1 h2
  go_enter Try.func45, Try.ntmps45
  go_wp2
  go_loopw [0, 4] (fun n s wr => ∃ (u : Nat) (t : List UInt8), n = .int .i64 u ∧ s = .string ⟨t.toArray⟩ ∧ u ≤ 9223372036854775807 ∧ Below w.heap.size w wr ∧ Hid (front u0 = front u ++ t)) (fun n _ _ => (intOf n).toNat)
  case atStart => exact ⟨u0, [], rfl, rfl, HU.out, Below.refl _ _, Lib.hid (by simp)⟩
  case round =>
    obtain ⟨u, t, rfl, rfl, hu, hb, hf⟩ := hrel
    have ht : t.length ≤ 19 := tail_len (by have := HU.out; omega) hf.out
    by_cases hz : u = 0
    · subst hz
      go_wp2
      go_ret
      refine ⟨?_, hb⟩
      have e := hf.out
      unfold front at e
      rw [if_neg (by omega), if_pos rfl, List.nil_append] at e
      show Ending.returned (.string (⟨#[]⟩ ++ ⟨t.toArray⟩)) = _
      rw [str_nil, itoa_pos (by omega), Int.toNat_natCast, e]
    · have e1 : ((u : Int) == 0) = false := by simp; omega
      have e2 : ((u : Int) != 0) = true := by simp; omega
      have r1 : (0 : Int) ≤ (u : Int) % 10 := by omega
      have r2 : (u : Int) % 10 < 10 := by omega
      have hcv := digit_cell wr u
      go_wp2
      go_roundw
      case rel => exact ⟨u / 10, dgc u :: t, by go_num, congrArg Value.string (str_cons _ _), by omega, hb.alloc hb.size _, Lib.hid (by rw [hf.out, front_step (by omega : 1 ≤ u), List.append_assoc]; rfl)⟩
      case measure => simp [intOf]; omega
theorem tmod_neg (u : Nat) : (-(u : Int)).tmod 10 = -((u : Int) % 10) := by rw [Int.neg_tmod, Int.tmod_eq_emod_of_nonneg (by omega)]
theorem tdiv_neg' (u : Nat) : (-(u : Int)).tdiv 10 = -((u : Int) / 10) := by rw [Int.neg_tdiv, Int.tdiv_eq_ediv_of_nonneg (by omega)]
theorem digit_zero (wr : World) (u : Nat) (h : u % 10 = 0) : (convert 35 9 (.slice (some ⟨wr.heap.size, 0, none⟩) 1 1)).run Try.prog (wr.alloc (.cells #[.int .u8 48] 5)) =
    .ok (.string ⟨[dgc u].toArray⟩) (wr.alloc (.cells #[.int .u8 48] 5)) := by
  have := digit_cell wr u
  rw [show (48 + (u : Int) % 10) = 48 by omega] at this
  exact this
theorem str_minus (t : List UInt8) : (⟨#[45]⟩ : ByteArray) ++ ⟨t.toArray⟩ = ⟨(45 :: t).toArray⟩ := by
  apply ByteArray.ext
  simp

theorem write_neg (u0 : Nat) (h1 : 1 ≤ u0) (h2 : u0 ≤ 9223372036854775808) (w : World) :
    Calls Try.prog 45 #[.int .i64 (-(u0 : Int))] w fun e w' => e = .returned (.string ⟨(itoa (-(u0 : Int))).toArray⟩) ∧ Below w.heap.size w w' := by
  have e0 : ((-(u0 : Int)) == 0) = false := by simp; omega
  have q1 : (-(u0 : Int)) < 0 := by omega
  have HU := Lib.hid h2
  have HF := Lib.hid (itoa_neg' (n := -(u0 : Int)) (by omega))
  clear h1 h2
  go_enter Try.func45, Try.ntmps45
  go_wp2
  go_loopw [0, 4] (fun n s wr => ∃ (u : Nat) (t : List UInt8), n = .int .i64 (-(u : Int)) ∧ s = .string ⟨t.toArray⟩ ∧ u ≤ 9223372036854775808 ∧ Below w.heap.size w wr ∧ Hid (front u0 = front u ++ t)) (fun n _ _ => (-(intOf n)).toNat)
  case atStart => exact ⟨u0, [], rfl, rfl, HU.out, Below.refl _ _, Lib.hid (by simp)⟩
  case round =>
    obtain ⟨u, t, rfl, rfl, hu, hb, hf⟩ := hrel
    have ht : t.length ≤ 19 := tail_len HU.out hf.out
    by_cases hz : u = 0
    · subst hz
      go_wp2
      go_ret
      refine ⟨?_, hb⟩
      have e := hf.out
      unfold front at e
      rw [if_neg (by omega), if_pos rfl, List.nil_append] at e
      show Ending.returned (.string (⟨#[45]⟩ ++ ⟨t.toArray⟩)) = _
      rw [str_minus, HF.out, show (-(u0 : Int)).natAbs = u0 by omega, e]
    · have e1 : ((-(u : Int)) == 0) = false := by simp; omega
      have e2 : ((-(u : Int)) != 0) = true := by simp; omega
      have m1 := tmod_neg u
      have m2 : wrap64 ((-(u : Int)).tdiv 10) = -((u : Int) / 10) := by rw [tdiv_neg']; unfold wrap64; omega
      have m3 : wrap64 (-((u : Int) / 10)) = -((u : Int) / 10) := by unfold wrap64; omega
      have hf' : Hid (front u0 = front (u / 10) ++ (dgc u :: t)) := Lib.hid (by rw [hf.out, front_step (by omega : 1 ≤ u), List.append_assoc]; rfl)
      by_cases hd : u % 10 = 0
      · have hcv := digit_zero wr u hd
        have m4 : (u : Int) % 10 = 0 := by omega
        rw [m4] at m1
        clear hf hd m4
        go_wp2
        go_roundw
        case rel => exact ⟨u / 10, dgc u :: t, by go_num, congrArg Value.string (str_cons _ _), by omega, hb.alloc hb.size _, hf'⟩
        case measure => simp [intOf]; omega
      · have hcv := digit_cell wr u
        have r1 : -((u : Int) % 10) < 0 := by omega
        have r2 : (u : Int) % 10 < 10 := by omega
        have r3 : (0 : Int) ≤ (u : Int) % 10 := by omega
        clear hf hd
        go_wp2
        go_roundw
        case rel => exact ⟨u / 10, dgc u :: t, by go_num, congrArg Value.string (str_cons _ _), by omega, hb.alloc hb.size _, hf'⟩
        case measure => simp [intOf]; omega
/-- **fescueref01.Write.** -/
theorem write_any (n : Int) (h : In64n n) (w : World) :
    Calls Try.prog 45 #[.int .i64 n] w fun e w' => e = .returned (.string ⟨(itoa n).toArray⟩) ∧ Below w.heap.size w w' := by
  obtain ⟨h1, h2⟩ := h
  rcases Int.lt_trichotomy n 0 with hn | rfl | hn
  · have := write_neg n.natAbs (by omega) (by omega) w
    rw [show (-(n.natAbs : Int)) = n by omega] at this
    exact this
  · rw [show itoa 0 = [48] by rw [itoa_pos (by omega), dec_small (by decide)]; rfl]
    go_enter Try.func45, Try.ntmps45
    go_wp2
    go_ret
    exact ⟨rfl, Below.refl _ _⟩
  · have := write_pos n.toNat (by omega) (by omega) w
    rw [show (n.toNat : Int) = n by omega] at this
    exact this

/-! The reader of the reference. -/
def from_ (s : ByteArray) (a j : Nat) : List UInt8 := (pre s j).drop a
theorem from_succ (s : ByteArray) (a j : Nat) (ha : a ≤ j) (h : j < s.size) : from_ s a (j + 1) = from_ s a j ++ [s[j]] := by
  unfold from_
  rw [pre_succ s j h, List.drop_append_of_le_length (by rw [pre_len s j (by omega)]; exact ha)]
theorem from_len (s : ByteArray) (a j : Nat) (h : j ≤ s.size) : (from_ s a j).length = j - a := by unfold from_; rw [List.length_drop, pre_len s j h]
theorem from_all (s : ByteArray) (a : Nat) : from_ s a s.size = s.data.toList.drop a := by unfold from_; rw [pre_all]
theorem rdigit_step (s : ByteArray) (a j : Nat) (ha : a ≤ j) (h : j < s.size) (hs : s.size - a ≤ 19) (hd : AllDig (from_ s a j)) (h1 : 48 ≤ s[j].toNat) (h2 : s[j].toNat ≤ 57) :
    IntKind.u64.wrap (IntKind.u64.wrap (IntKind.u64.wrap (10 * (valD (from_ s a j) : Int)) + (s[j].toNat : Int)) - 48) = (valD (from_ s a (j + 1)) : Nat) := by
  have hv := valD_lt (j - a) (from_ s a j) (from_len s a j (by omega)) hd
  have hp : (10 : Nat) ^ (j - a) ≤ 10 ^ 18 := Nat.pow_le_pow_right (by omega) (by omega)
  have e1 : IntKind.u64.wrap (10 * (valD (from_ s a j) : Int)) = 10 * (valD (from_ s a j) : Int) := IntWalk.u64_in _ ⟨by omega, by omega⟩
  have e2 : IntKind.u64.wrap (10 * (valD (from_ s a j) : Int) + (s[j].toNat : Int)) = 10 * (valD (from_ s a j) : Int) + (s[j].toNat : Int) := IntWalk.u64_in _ ⟨by omega, by omega⟩
  rw [from_succ s a j ha h, valD_snoc, e1, e2, IntWalk.u64_in _ ⟨by omega, by omega⟩]
  unfold dv
  omega

/-- What stands behind the digits: nothing, where a byte is none; else the number that they tell. -/
def rnum (neg : Bool) (x : Nat) : Int := if neg then wrap64 (-wrap64 (x : Int)) else wrap64 (x : Int)

theorem rread_size (s : ByteArray) (h : s.size < 1 ∨ 20 < s.size) (w : World) :
    Calls Try.prog 38 #[.string s] w fun e w' => e = .returned (.tuple #[.int .i64 0, .int .i64 10]) ∧ Below w.heap.size w w' := by
  rcases h with h | h
  · have q : (s.size : Int) < 1 := by omega
    go_enter Try.func38, Try.ntmps38
    go_wp2
    go_ret2
    exact ⟨rfl, Below.refl _ _⟩
  · have q : (20 : Int) < s.size := by omega
    go_enter Try.func38, Try.ntmps38
    go_wp2
    go_ret2
    exact ⟨rfl, Below.refl _ _⟩
end Go.Proofs.Ytbkgcikhiomenaa
